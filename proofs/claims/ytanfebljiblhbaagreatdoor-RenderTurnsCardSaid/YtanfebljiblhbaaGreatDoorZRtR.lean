/- The same patches, the same graph: plain. Whatever order patches come in, again and again: the same graph. Plain. The same patches: the same lines, relations and names. Plain. -/
import Derived.Test.YtanfebljiblhbaaGreatDoorZNmP
set_option linter.unusedVariables false
set_option linter.unusedSimpArgs false
namespace Go.Proofs.YtanfebljiblhbaaGreatDoor
open Go

/-- no two patches of one name -/
def OneId(L:List PatchM):Prop:=(L.map (·.id)).Nodup
theorem one_nil:OneId []:=List.nodup_nil
theorem hasM_ids{L:List PatchM}{q:PidM}:hasM L q=true↔q∈L.map (·.id):=by
 unfold hasM
 rw [List.any_eq_true,List.mem_map]
 simp
theorem one_snoc{L:List PatchM}{p:PatchM}(h:OneId L)(hp:hasM L p.id=false):OneId (L++[p]):=by
 unfold OneId at h ⊢
 rw [List.map_append,List.map_cons,List.map_nil]
 refine List.nodup_append.2 ⟨h,by simp,fun a ha b hb e => ?_⟩
 have hb:=List.mem_singleton.1 hb
 subst hb
 subst e
 rw [hasM_ids.2 ha] at hp
 cases hp
theorem one_apply{L:List PatchM}(h:OneId L)(p:PatchM):OneId (applyM L p):=by
 unfold applyM
 split
 ·
  rename_i hc
  exact one_snoc h (check_ok hc).new
 ·
  exact h
theorem one_eq{L:List PatchM}(h:OneId L){p q:PatchM}(hp:p∈L)(hq:q∈L)(e:p.id=q.id):p=q:=by
 unfold OneId at h
 obtain⟨i,hi⟩:=List.getElem?_of_mem hp
 obtain⟨j,hj⟩:=List.getElem?_of_mem hq
 have h1:(L.map (·.id))[i]? = some p.id:=by rw [List.getElem?_map,hi];rfl
 have h2:(L.map (·.id))[j]? = some p.id:=by rw [List.getElem?_map,hj,e];rfl
 have:=(List.getElem?_inj (List.getElem?_eq_some_iff.1 h1).1 h).1 (h1.trans h2.symm)
 subst this
 rw [hi] at hj
 exact Option.some.inj hj
theorem one_nodup{L:List PatchM}(h:OneId L):L.Nodup:=by
 unfold OneId List.Nodup at h
 rw [List.pairwise_map] at h
 exact h.imp fun hab e=>hab (congrArg PatchM.id e)
/-! ### what a graph is does not hang on the order -/
theorem vertOp_iff{L:List PatchM}(h:OneId L){v:VidM}{o:OpM}:vertOp L v=some o↔∃ p∈L,madeBy p v=some o:=by
 constructor
 ·
  intro ho
  unfold vertOp at ho
  exact List.exists_of_findSome?_eq_some ho
 ·
  rintro⟨p,hp,hm⟩
  cases hc:vertOp L v with
  | none =>
   unfold vertOp at hc
   rw [List.findSome?_eq_none_iff] at hc
   rw [hc p hp] at hm
   cases hm
  | some o2 =>
   unfold vertOp at hc
   obtain⟨q,hq,hm2⟩:=List.exists_of_findSome?_eq_some hc
   have e:p=q:=by
    refine one_eq h hp hq ?_
    unfold madeBy at hm hm2
    split at hm
    ·
     rename_i e1
     split at hm2
     ·
      rename_i e2
      rw [e1,e2]
     ·
      cases hm2
    ·
     cases hm
   subst e
   rw [hm] at hm2
   exact hm2.symm
section
variable {A B : List PatchM}
theorem vertOp_same(ha:OneId A)(hb:OneId B)(h:∀ p,p∈A↔p∈B)(v:VidM):vertOp A v=vertOp B v:=by
 refine Option.ext fun o => ?_
 rw [vertOp_iff ha,vertOp_iff hb]
 exact⟨fun⟨p,hp,hm⟩=>⟨p,(h p).1 hp,hm⟩,fun⟨p,hp,hm⟩=>⟨p,(h p).2 hp,hm⟩⟩
theorem any_same{f:PatchM→Bool}(h:∀ p,p∈A↔p∈B):A.any f=B.any f:=by
 rw [Bool.eq_iff_iff,List.any_eq_true,List.any_eq_true]
 exact⟨fun⟨p,hp,hm⟩=>⟨p,(h p).1 hp,hm⟩,fun⟨p,hp,hm⟩=>⟨p,(h p).2 hp,hm⟩⟩
theorem vertM_same(ha:OneId A)(hb:OneId B)(h:∀ p,p∈A↔p∈B):vertM A=vertM B:=by
 funext v
 unfold vertM
 rw [vertOp_same ha hb h]
 have:deadM A v=deadM B v:=any_same h
 rw [this]
theorem idsM_same(ha:OneId A)(hb:OneId B)(h:∀ p,p∈A↔p∈B)(hla:∀ p∈A,p.ops.length≤200)(hlb:∀ p∈B,p.ops.length≤200):idsM A=idsM B:=by
 refine rises_ext (key:=packVid) (rises_setS packVid_hi _) (rises_setS packVid_hi _) fun v => ?_
 show v∈idsM A↔v∈idsM B
 rw [mem_idsM hla,mem_idsM hlb,vertM_same ha hb h]
theorem hasE_same(h:∀ p,p∈A↔p∈B):hasE A=hasE B:=by
 funext e
 exact any_same h
theorem edgesM_same(h:∀ p,p∈A↔p∈B):edgesM A=edgesM B:=by
 refine rises_ext (key:=edgeKey) (rises_setS edgeKey_hi _) (rises_setS edgeKey_hi _) fun e => ?_
 show e∈edgesM A↔e∈edgesM B
 rw [mem_edgesM,mem_edgesM,hasE_same h]
end
/-! ### whatever order patches come in -/
/-- every patch of l that may be applied is there -/
def Full(l A:List PatchM):Prop:=∀ p∈l,p ∉ A→checkM A p≠0
/-- all patches of one name are one -/
def SameId(l:List PatchM):Prop:=∀ p∈l,∀ q∈l,p.id=q.id→p=q
theorem check_up{A B:List PatchM}(hwa:WfG A)(hwb:WfG B)(hb:OneId B)(h:∀ p∈A,p∈B){p:PatchM}(hc:checkM A p=0)(hn:hasM B p.id=false):checkM B p=0:=by
 have hk:=check_ok hc
 obtain⟨n1,n2,n3⟩:=next_parts (goodP_id hk.good) hk.next
 have hup:∀ q,hasM A q=true→hasM B q=true:=fun q hq=>by
  unfold hasM at hq ⊢
  obtain⟨x,hx,hm⟩:=List.any_eq_true.1 hq
  exact List.any_eq_true.2 ⟨x,h x hx,hm⟩
 have hvec:vecM B p.id.author=vecM A p.id.author:=by
  have h1:vecM A p.id.author≤vecM B p.id.author:=by
   rcases Nat.eq_zero_or_pos (vecM A p.id.author) with e|e
   ·
    omega
   ·
    have hv:(UInt16.ofNat (vecM A p.id.author)).toNat=vecM A p.id.author:=by simp;omega
    have:=hup ⟨p.id.author,UInt16.ofNat (vecM A p.id.author)⟩ ((hwa.has _).2 ⟨n1,by show 1≤(UInt16.ofNat (vecM A p.id.author)).toNat;omega,by show(UInt16.ofNat (vecM A p.id.author)).toNat≤_;rw [hv];exact Nat.le_refl _⟩)
    have:=((hwb.has _).1 this).2.2
    rw [show(⟨p.id.author,UInt16.ofNat (vecM A p.id.author)⟩:PidM).seq.toNat=vecM A p.id.author from hv] at this
    exact this
  rcases Nat.eq_or_lt_of_le h1 with e|e
  ·
   exact e.symm
  ·
   have:hasM B p.id=true:=(hwb.has _).2 ⟨n1,by omega,by omega⟩
   rw [this] at hn;cases hn
 have hnext:nextM B p.id.author=p.id:=by
  have:=hk.next
  unfold nextM at this ⊢
  rw [hvec];exact this
 have hdeps:(p.deps.all fun d=>hasM B d)=true:=List.all_eq_true.2 fun d hd=>hup d (hk.deps d hd)
 have hvert:∀ v,hasM A v.pid=true→∃ hd:Bool,∀ x,vertM A v=some x→vertM B v=some {x with dead:=hd}:=fun v hv=>by
  refine⟨deadM B v,fun x hx => ?_⟩
  unfold vertM at hx ⊢
  obtain⟨o,ho,e⟩:=Option.map_eq_some_iff.1 hx
  have h1:=List.exists_of_findSome?_eq_some (show A.findSome? (fun p=>madeBy p v)=some o from ho)
  obtain⟨q,hq,hm⟩:=h1
  rw [(vertOp_iff hb).2 ⟨q,h q hq,hm⟩,← e]
  rfl
 have hvkf:∀ v,hasM A v.pid=true→(vertM A v).map (fun x=>(x.kind,x.file))=(vertM B v).map (fun x=>(x.kind,x.file))∨vertM A v=none:=fun v hv=>by
  cases hx:vertM A v with
  | none=>exact .inr rfl
  | some x =>
   obtain⟨hd,h2⟩:=hvert v hv
   rw [h2 x hx]
   exact .inl rfl
 have hrefs:(p.ops.all fun o=>refMet (B++[p]) o)=true:=List.all_eq_true.2 fun o ho=>by
  have h1:=hk.refs o ho
  have hkd:=kind_of hk.good ho
  have hkd':o.kind=1∨o.kind=2∨o.kind=3∨o.kind=4∨o.kind=5:=by
   rcases hkd with q|q|q|q|q
   ·
    exact .inl q
   ·
    exact .inr (.inl q)
   ·
    exact .inr (.inr (.inl q))
   ·
    exact .inr (.inr (.inr (.inl q)))
   ·
    exact .inr (.inr (.inr (.inr q.1)))
  rw [← refs_same hk.new hkd'] at h1
  rw [← refs_same hn hkd']
  -- what an operation names is there
  have hlook:∀ v x,lookM A p v=some x→∃ y,lookM B p v=some y∧y.kind=x.kind∧y.file=x.file:=by
   intro v x hx
   unfold lookM at hx ⊢
   split at hx
   ·
    rename_i e
    rw [if_pos e]
    exact⟨x,hx,rfl,rfl⟩
   ·
    rename_i e
    rw [if_neg e]
    have hv:hasM A v.pid=true:=by
     unfold vertM at hx
     obtain⟨o2,ho2,_⟩:=Option.map_eq_some_iff.1 hx
     obtain⟨q,hq,hm⟩:=List.exists_of_findSome?_eq_some (show A.findSome? (fun p=>madeBy p v)=some o2 from ho2)
     unfold madeBy at hm
     split at hm
     ·
      rename_i e2
      rw [← e2]
      exact hasM_of_mem hq
     ·
      cases hm
    obtain⟨hd,h2⟩:=hvert v hv
    exact⟨_,h2 x hx,rfl,rfl⟩
  have hisK:∀ v k,isK (lookM A p v) k=true→isK (lookM B p v) k=true:=by
   intro v k hv
   cases hx:lookM A p v with
   | none=>rw [hx] at hv;cases hv
   | some x =>
    obtain⟨y,hy,e1,_⟩:=hlook v x hx
    rw [hx] at hv
    rw [hy]
    show(y.kind == k)=true
    rw [e1];exact hv
  unfold refsB at h1 ⊢
  split at h1
  ·
   rename_i e
   rw [if_pos e]
   exact hisK _ _ h1
  ·
   rename_i e
   rw [if_neg e]
   split at h1
   ·
    rename_i e2
    rw [if_pos e2]
    cases hx:lookM A p o.at' with
    | none=>rw [hx] at h1;cases h1
    | some x =>
     obtain⟨y,hy,_,_⟩:=hlook _ x hx
     rw [hy];rfl
   ·
    rename_i e2
    rw [if_neg e2]
    split at h1
    ·
     rename_i e3
     rw [if_pos e3]
     simp only [Bool.and_eq_true,decide_eq_true_eq] at h1 ⊢
     refine⟨hisK _ _ h1.1,hisK _ _ h1.2.1,?_⟩
     cases hx:lookM A p o.at' with
     | none=>have:=h1.1;rw [hx] at this;cases this
     | some x =>
      cases hx2:lookM A p o.to with
      | none=>have:=h1.2.1;rw [hx2] at this;cases this
      | some x2 =>
       obtain⟨y,hy,_,f1⟩:=hlook _ x hx
       obtain⟨y2,hy2,_,f2⟩:=hlook _ x2 hx2
       have h3:=h1.2.2
       rw [hx,hx2] at h3
       rw [hy,hy2]
       show some y.file=some y2.file
       rw [f1,f2];exact h3
    ·
     rename_i e3
     rw [if_neg e3]
 unfold checkM
 rw [hk.good,hn,hdeps,hrefs,if_neg (by decide),if_neg (by decide),if_neg (fun q=>q hnext),if_neg (by decide),if_neg (by decide)]
end Go.Proofs.YtanfebljiblhbaaGreatDoor
namespace Go.Proofs.YtanfebljiblhbaaGreatDoor
open Go

theorem nodup_lenP:∀ {l m:List PatchM},l.Nodup→(∀ x∈l,x∈m)→l.length≤m.length
 | [],m,_,_=>Nat.zero_le _
 | x :: l,m,hn,hm=>by
  obtain⟨hx,hn⟩:=List.nodup_cons.1 hn
  obtain⟨a,b,rfl⟩:=List.append_of_mem (hm x (List.mem_cons_self ..))
  have:=nodup_lenP (m:=a++b) hn fun y hy=>by
   have h1:=hm y (List.mem_cons_of_mem _ hy)
   rcases List.mem_append.1 h1 with h1|h1
   ·
    exact List.mem_append_left _ h1
   ·
    rcases List.mem_cons.1 h1 with rfl|h1
    ·
     exact absurd hy hx
    ·
     exact List.mem_append_right _ h1
  rw [List.length_cons,List.length_append,List.length_cons]
  rw [List.length_append] at this
  omega
theorem apply_in{L:List PatchM}{p q:PatchM}(h:q∈applyM L p):q∈L∨q=p:=by
 unfold applyM at h
 split at h
 ·
  rcases List.mem_append.1 h with h|h
  ·
   exact .inl h
  ·
   exact .inr (List.mem_singleton.1 h)
 ·
  exact .inl h
theorem apply_len(L:List PatchM)(p:PatchM):L.length≤(applyM L p).length:=by
 unfold applyM
 split
 ·
  rw [List.length_append];omega
 ·
  exact Nat.le_refl _
theorem fold_len:∀(s:List PatchM) (L:List PatchM),L.length≤(s.foldl applyM L).length
 | [],L=>Nat.le_refl _
 | p :: s,L=>by
  have h1:=apply_len L p
  have h2:=fold_len s (applyM L p)
  rw [List.foldl_cons];omega
theorem fold_one:∀(s:List PatchM) {L:List PatchM},OneId L→OneId (s.foldl applyM L)
 | [],L,h=>h
 | p :: s,L,h=>by rw [List.foldl_cons];exact fold_one s (one_apply h p)
theorem fold_in{l:List PatchM}:∀(s:List PatchM) {L:List PatchM},(∀ p∈s,p∈l)→(∀ p∈L,p∈l)→∀ p∈s.foldl applyM L,p∈l
 | [],L,_,h=>h
 | q :: s,L,hs,h=>by
  rw [List.foldl_cons]
  refine fold_in s (fun p hp=>hs p (List.mem_cons_of_mem _ hp)) fun p hp => ?_
  rcases apply_in hp with hp|rfl
  ·
   exact h p hp
  ·
   exact hs _ (List.mem_cons_self ..)
/-- what a full graph has, is all that can be had -/
theorem fold_le{l B:List PatchM}(hs:SameId l)(hwb:WfG B)(hb:OneId B)(hbl:∀ p∈B,p∈l)(hf:Full l B):∀(s:List PatchM) {L:List PatchM},WfG L→(∀ p∈s,p∈l)→(∀ p∈L,p∈B)→∀ p∈s.foldl applyM L,p∈B
 | [],L,_,_,h=>h
 | q :: s,L,hw,hsl,h=>by
  rw [List.foldl_cons]
  refine fold_le hs hwb hb hbl hf s (wf_apply hw q) (fun p hp=>hsl p (List.mem_cons_of_mem _ hp)) ?_
  have hql:=hsl q (List.mem_cons_self ..)
  intro p hp
  unfold applyM at hp
  split at hp
  ·
   rename_i hc
   rcases List.mem_append.1 hp with hp|hp
   ·
    exact h p hp
   ·
    have hp:=List.mem_singleton.1 hp
    subst hp
    refine Classical.byContradiction fun hn => ?_
    have hh:hasM B p.id=false:=by
     cases hx:hasM B p.id with
     | false=>rfl
     | true =>
      obtain⟨r,hr,e⟩:=List.mem_map.1 (hasM_ids.1 hx)
      have:=hs r (hbl r hr) p hql e
      subst this
      exact absurd hr hn
    exact hf p hql hn (check_up hw hwb hb h hc hh)
  ·
   exact h p hp
/-- a round that turns nothing: all that may be applied is there -/
theorem still_full:∀(s:List PatchM) (L:List PatchM),(s.foldl applyM L).length=L.length→∀ p∈s,checkM L p≠0∧s.foldl applyM L=L
 | [],L,_,p,hp=>absurd hp List.not_mem_nil
 | q :: s,L,h,p,hp=>by
  rw [List.foldl_cons] at h ⊢
  have h1:=apply_len L q
  have h2:=fold_len s (applyM L q)
  have hq:checkM L q≠0:=fun hc=>by
   have:applyM L q=L++[q]:=by unfold applyM;rw [if_pos hc]
   rw [this] at h1 h2 h
   rw [List.length_append,List.length_singleton] at h2
   omega
  have ha:applyM L q=L:=by unfold applyM;rw [if_neg hq]
  rw [ha] at h ⊢
  have hrest:s.foldl applyM L=L:=by
   cases s with
   | nil=>rfl
   | cons r s=>exact(still_full (r :: s) L h r (List.mem_cons_self ..)).2
  refine⟨?_,hrest⟩
  rcases List.mem_cons.1 hp with rfl|hp
  ·
   exact hq
  ·
   exact(still_full s L h p hp).1
def rounds(s:List PatchM):Nat→List PatchM
 | 0=>[]
 | k+1=>s.foldl applyM (rounds s k)
theorem rounds_wf(s:List PatchM):∀ k,WfG (rounds s k)
 | 0=>wf_nil
 | k+1=>wf_foldl s (rounds_wf s k)
theorem rounds_one(s:List PatchM):∀ k,OneId (rounds s k)
 | 0=>one_nil
 | k+1=>fold_one s (rounds_one s k)
theorem rounds_in{l:List PatchM}(s:List PatchM)(hs:∀ p∈s,p∈l):∀ k,∀ p∈rounds s k,p∈l
 | 0,p,h=>absurd h List.not_mem_nil
 | k+1,p,h=>fold_in s hs (rounds_in s hs k) p h
/-- rounds that are enough: a round turned nothing, or each one had one more -/
theorem rounds_grow(s:List PatchM):∀ k,(∃ j,j≤k∧(rounds s (j+1)).length=(rounds s j).length)∨k+1≤(rounds s (k+1)).length
 | 0=>by
  rcases Nat.eq_zero_or_pos (rounds s 1).length with h|h
  ·
   exact .inl ⟨0,Nat.le_refl _,by rw [h];rfl⟩
  ·
   exact .inr h
 | k+1=>by
  rcases rounds_grow s k with⟨j,h1,h2⟩|h
  ·
   exact .inl ⟨j,by omega,h2⟩
  ·
   have h1:(rounds s (k+1)).length≤(rounds s (k+1+1)).length:=fold_len s _
   rcases Nat.eq_or_lt_of_le h1 with e|e
   ·
    exact .inl ⟨k+1,Nat.le_refl _,e.symm⟩
   ·
    exact .inr (by omega)
theorem rounds_stay(s:List PatchM){j:Nat}(h:(rounds s (j+1)).length=(rounds s j).length):∀ d,rounds s (j+d)=rounds s j
 | 0=>rfl
 | d+1=>by
  have ih:=rounds_stay s h d
  show s.foldl applyM (rounds s (j+d))=rounds s j
  rw [ih]
  cases hs:s with
  | nil=>rfl
  | cons p r =>
   rw [← hs]
   exact(still_full s (rounds s j) h p (by rw [hs];exact List.mem_cons_self ..)).2
theorem rounds_full{l s:List PatchM}(hs:∀ p,p∈s↔p∈l){k:Nat}(hk:l.length≤k):Full l (rounds s (k+1)):=by
 intro p hp hn
 have hin:=rounds_in (l:=l) s fun q hq=>(hs q).1 hq
 rcases rounds_grow s k with⟨j,h1,h2⟩|h
 ·
  have e1:=rounds_stay s h2 (k+1 - j)
  rw [show j+(k+1 - j)=k+1 by omega] at e1
  rw [e1]
  exact(still_full s (rounds s j) h2 p ((hs p).2 hp)).1
 ·
  have:=nodup_lenP (one_nodup (rounds_one s (k+1))) (hin (k+1))
  omega
/-- whatever the order -/
theorem rounds_same{l s s':List PatchM}(hl:SameId l)(hs:∀ p,p∈s↔p∈l)(hs':∀ p,p∈s'↔p∈l){k:Nat}(hk:l.length≤k):∀ p,p∈rounds s (k+1)↔p∈rounds s' (k+1):=by
 have key:∀ {s s':List PatchM},(∀ p,p∈s↔p∈l)→(∀ p,p∈s'↔p∈l)→∀ j,∀ p∈rounds s j,p∈rounds s' (k+1):=by
  intro s s' h1 h2 j
  induction j with
  | zero=>intro p hp;exact absurd hp List.not_mem_nil
  | succ j ih =>
   intro p hp
   exact fold_le hl (rounds_wf s' (k+1)) (rounds_one s' (k+1)) (rounds_in s' (fun q hq=>(h2 q).1 hq) (k+1)) (rounds_full h2 hk) s (rounds_wf s j) (fun q hq=>(h1 q).1 hq) ih p hp
 exact fun p=>⟨key hs hs' (k+1) p,key hs' hs (k+1) p⟩
end Go.Proofs.YtanfebljiblhbaaGreatDoor
namespace Go.Proofs.YtanfebljiblhbaaGreatDoor
open Go

section
variable {A B : List PatchM}
theorem vertsM_same(ha:OneId A)(hb:OneId B)(h:∀ p,p∈A↔p∈B)(hla:∀ p∈A,p.ops.length≤200)(hlb:∀ p∈B,p.ops.length≤200):vertsM A=vertsM B:=by
 unfold vertsM
 rw [idsM_same ha hb h hla hlb,vertM_same ha hb h]
theorem graph_same(ha:OneId A)(hb:OneId B)(h:∀ p,p∈A↔p∈B)(hla:∀ p∈A,p.ops.length≤200)(hlb:∀ p∈B,p.ops.length≤200):linesM A=linesM B∧relM A=relM B∧filesM A=filesM B∧allM A=allM B:=by
 have hv:=vertsM_same ha hb h hla hlb
 have hm:=vertM_same ha hb h
 have he:=edgesM_same h
 have hof:ofM A=ofM B:=by funext f k;unfold ofM;rw [hv]
 have hl:linesM A=linesM B:=by funext f;unfold linesM;rw [hof]
 have hfa:fileAt A=fileAt B:=by funext v;unfold fileAt;rw [hm]
 have hst:stepsM A=stepsM B:=by funext f;unfold stepsM;rw [he,hfa]
 have hr:relM A=relM B:=by funext f;unfold relM;rw [hst,hl]
 have hf:filesM A=filesM B:=by unfold filesM;rw [hv]
 have hal:aliveM A=aliveM B:=by funext f;unfold aliveM;rw [hof]
 have hn:namesM A=namesM B:=by funext f;unfold namesM;rw [hal,hm]
 have hd:deadAt A=deadAt B:=by funext f;unfold deadAt;rw [hm]
 have h1:nameOne A=nameOne B:=by
  funext c f l
  cases l <;> rfl
 have hs:stepN A=stepN B:=by funext s f;unfold stepN;rw [hd,hn,h1]
 refine⟨hl,hr,hf,?_⟩
 unfold allM allTo
 rw [hf,hs]
end
/-- the law's guard: patches of one name are one -/
theorem turns_same{l s s':List PatchM}(hl:SameId l)(hs:∀ p,p∈s↔p∈l)(hs':∀ p,p∈s'↔p∈l):linesM (rounds s (l.length+1))=linesM (rounds s' (l.length+1))∧relM (rounds s (l.length+1))=relM (rounds s' (l.length+1))∧filesM (rounds s (l.length+1))=filesM (rounds s' (l.length+1))∧allM (rounds s (l.length+1))=allM (rounds s' (l.length+1)):=
 graph_same (rounds_one s _) (rounds_one s' _) (rounds_same hl hs hs' (Nat.le_refl _)) (wf_len (rounds_wf s _)) (wf_len (rounds_wf s' _))
end Go.Proofs.YtanfebljiblhbaaGreatDoor
