/- What is proved: MergeTurns, for every input; of the listed tables the walk needs the powers of ten. -/
import Derived.Test.YtjccmcgglfncdaaGreatDoorURcS
set_option linter.unusedVariables false
set_option linter.unusedSimpArgs false
set_option maxRecDepth 100000
set_option maxHeartbeats 40000000
namespace Go.Proofs.YtjccmcgglfncdaaGreatDoor
open Go Go.RowKit
section
variable {R : List (Nat × Nat)} {t : List Nat}
theorem mt_cuts(h:t.Pairwise (BeforeP R))(k:Nat):cutB R t k=true:=by
 unfold cutB;rw [List.all_eq_true];intro a ha;rw [List.all_eq_true];intro b hb;obtain⟨i,hi⟩:=List.getElem?_of_mem ha;obtain⟨j,hj⟩:=List.getElem?_of_mem hb;rw [List.getElem?_take] at hi;rw [List.getElem?_drop] at hj;split at hi
 · obtain⟨hi1,hi2⟩:=List.getElem?_eq_some_iff.1 hi;obtain⟨hj1,hj2⟩:=List.getElem?_eq_some_iff.1 hj;have:=List.pairwise_iff_getElem.1 h i (k+j) hi1 hj1 (by omega);rw [hi2,hj2] at this;exact befB_iff.2 this
 cases hi
theorem mt_pieces(h:t.Pairwise (BeforeP R)):∀ k,k≤t.length→piecesTo R t k=((t.take k).map fun x=>[x],k)
 | 0,_=>rfl
 | k+1,hk=>by rw [pieces_yes (.inr (mt_cuts h (k+1))),mt_pieces h k (by omega)];have hx:t[k]? = some t[k]:=List.getElem?_eq_getElem (by omega);show((t.take k).map (fun x=>[x])++[(t.take (k+1)).drop k],k+1)=_;rw [take_one hx,List.map_append,List.drop_append_of_le_length (by rw [List.length_take];omega),List.drop_of_length_le (by rw [List.length_take];omega)];rfl
theorem mt_blocks(h:t.Pairwise (BeforeP R))(f:Nat):blkM R (f+1) t=t.map lineB:=by rw [blkM];unfold piecesM;rw [mt_pieces h _ (Nat.le_refl _),List.take_length,List.map_map];refine List.map_congr_left fun x _ => ?_;show pieceM R (blkM R f) [x]=lineB x;unfold pieceM;rw [if_pos (show [x].length=1 from rfl)];rfl
theorem mt_seen{l:List VertM}(h:(aliveX l R).Pairwise (BeforeP R)):lnSeen l R=(aliveX l R).map (textAt l)∧lnOdd l R=0:=by unfold lnSeen lnOdd lnBlk;rw [mt_blocks h];exact⟨eg_lines l _ fun i hi=>aliveX_lt hi,odd_lines _⟩
theorem mt_odd23{k n:Int}{s:List BlkM}(h:k=2∨k=3):0<oddB (.mk k n s):=by rw [oddB,if_pos h];omega
theorem mt_piece{F:List Nat→List BlkM}{p:List Nat}(h:oddB (pieceM R F p)=0):p.length=1:=by
 refine Classical.byContradiction fun h1 => ?_
 by_cases h2:(sidesM R p).length=1
 · unfold pieceM at h;rw [if_neg h1,if_pos h2] at h;exact absurd h (Nat.pos_iff_ne_zero.1 (mt_odd23 (.inr rfl)))
 unfold pieceM at h;rw [if_neg h1,if_neg h2] at h;exact absurd h (Nat.pos_iff_ne_zero.1 (mt_odd23 (.inl rfl)))
theorem mt_ones{F:List Nat→List BlkM}:∀ {ps:List (List Nat)},oddL (ps.map (pieceM R F))=0→∀ p∈ps,p.length=1
 | [],_,p,hp=>absurd hp List.not_mem_nil
 | q :: ps,h,p,hp=>by
  rw [List.map_cons,oddL_cons] at h;rcases List.mem_cons.1 hp with rfl|hp
  · exact mt_piece (R:=R) (F:=F) (show oddB (pieceM R F p)=0 by omega)
  exact mt_ones (F:=F) (ps:=ps) (show oddL (ps.map (pieceM R F))=0 by omega) p hp
theorem mt_sum:∀ {ps:List (List Nat)},(∀ p∈ps,p.length=1)→sumN (ps.map List.length)=ps.length
 | [],_=>rfl
 | p :: ps,h=>by have h1:=h p (List.mem_cons_self ..);have h2:=mt_sum (ps:=ps) fun q hq=>h q (List.mem_cons_of_mem _ hq);rw [List.map_cons,sumN,h1,h2,List.length_cons];omega
theorem mt_all:∀ k,k≤t.length→k≤(piecesTo R t k).1.length→∀ j,1≤j→j≤k→j=t.length∨cutB R t j=true
 | 0,_,_,j,h1,h2=>absurd h2 (by omega)
 | k+1,hk,hl,j,h1,h2=>by
  have hf:=pieces_few R t k
  by_cases h:k+1=t.length∨cutB R t (k+1)=true
  ·
   rw [pieces_yes h] at hl;simp only [List.length_append,List.length_singleton] at hl
   by_cases hj:j=k+1
   · rw [hj];exact h
   exact mt_all k (by omega) (by omega) j h1 (by omega)
  rw [pieces_no h] at hl;omega
theorem mt_chain{l:List VertM}(h:lnOdd l R=0):(aliveX l R).Pairwise (BeforeP R):=by
 unfold lnOdd lnBlk at h;rw [blkM] at h;have h1:=mt_ones h;generalize aliveX l R=t at h1 ⊢;rcases Nat.eq_zero_or_pos t.length with h0|h0
 · rw [List.eq_nil_of_length_eq_zero h0];exact List.Pairwise.nil
 have h2:=(pieces_end (R:=R) (t:=t) h0).2;rw [mt_sum h1] at h2;unfold piecesM at h2;rw [List.pairwise_iff_getElem];intro i j hi hj hij;rcases mt_all (R:=R) t.length (Nat.le_refl _) (by omega) j (by omega) (by omega) with q|q
 · omega
 unfold cutB at q;rw [List.all_eq_true] at q;have q1:=q t[i] (List.mem_of_getElem? (i:=i) (by rw [List.getElem?_take,if_pos hij];exact List.getElem?_eq_getElem hi));rw [List.all_eq_true] at q1;exact befB_iff.1 (q1 t[j] (List.mem_of_getElem? (i:=0) (by rw [List.getElem?_drop];exact List.getElem?_eq_getElem hj)))
end
end Go.Proofs.YtjccmcgglfncdaaGreatDoor
namespace Go.Proofs.YtjccmcgglfncdaaGreatDoor
open Go Go.RowKit
inductive LeadV (E:VidM→VidM→Prop):VidM→VidM→Prop
 | step {u v:VidM}:E u v→LeadV E u v
 | more {u k v:VidM}:LeadV E u k→E k v→LeadV E u v
def StepV(L:List PatchM)(f u v:VidM):Prop:=(u,v)∈stepsM L f
def BeforeV(L:List PatchM)(f u v:VidM):Prop:=LeadV (StepV L f) u v∧¬ LeadV (StepV L f) v u
theorem place_inj{l:List VertM}{u v:VidM}(hu:u∈l.map (·.id))(hv:v∈l.map (·.id))(h:placeM l u=placeM l v):u=v:=by obtain⟨x,h1,rfl⟩:=place_get hu;obtain⟨y,h2,rfl⟩:=place_get hv;rw [h,h2] at h1;rw [Option.some.inj h1]
section
variable {L : List PatchM} {f : VidM}
theorem leadV_to{u v:VidM}(h:LeadV (StepV L f) u v):Lead (relM L f) (placeM (linesM L f) u) (placeM (linesM L f) v):=by
 induction h with
 | step h=>exact .step (List.mem_map.2 ⟨_,h,rfl⟩)
 | more _ h ih=>exact .more ih (List.mem_map.2 ⟨_,h,rfl⟩)
theorem lead_toV(hw:WfG L){i j:Nat}(h:Lead (relM L f) i j):∀ u v,u∈(linesM L f).map (·.id)→v∈(linesM L f).map (·.id)→placeM (linesM L f) u=i→placeM (linesM L f) v=j→LeadV (StepV L f) u v:=by
 induction h with
 | step h =>intro u v hu hv e1 e2;obtain⟨e,he,h2⟩:=List.mem_map.1 h;obtain⟨k1,k2⟩:=step_ends hw (wf_len hw) he;have q1:=place_inj k1 hu (by rw [e1];exact congrArg Prod.fst h2);have q2:=place_inj k2 hv (by rw [e2];exact congrArg Prod.snd h2);subst q1 q2;exact .step he
 | more _ h ih =>intro u v hu hv e1 e2;obtain⟨e,he,h2⟩:=List.mem_map.1 h;obtain⟨k1,k2⟩:=step_ends hw (wf_len hw) he;have q2:=place_inj k2 hv (by rw [e2];exact congrArg Prod.snd h2);subst q2;exact .more (ih u e.1 hu k1 e1 (congrArg Prod.fst h2)) he
theorem before_iff(hw:WfG L){u v:VidM}(hu:u∈(linesM L f).map (·.id))(hv:v∈(linesM L f).map (·.id)):BeforeP (relM L f) (placeM (linesM L f) u) (placeM (linesM L f) v)↔BeforeV L f u v:=
 ⟨fun h=>⟨lead_toV hw h.1 u v hu hv rfl rfl,fun q=>h.2 (leadV_to q)⟩,fun h=>⟨leadV_to h.1,fun q=>h.2 (lead_toV hw q v u hv hu rfl rfl)⟩⟩
def vidAt(l:List VertM)(i:Nat):VidM:=(l.getD i noVert).id
noncomputable def aliveV(L:List PatchM)(f:VidM):List VidM:=(aliveX (linesM L f) (relM L f)).map (vidAt (linesM L f))
theorem mem_lines(hw:WfG L){x:VertM}:x∈linesM L f↔vertM L x.id=some x∧x.kind=3∧x.file=f:=by unfold linesM ofM;rw [List.mem_filter,mem_vertsM (wf_len hw)];simp
theorem alive_get{i:Nat}(h:i∈aliveX (linesM L f) (relM L f)):∃ x,(linesM L f)[i]? = some x∧x.dead=false∧vidAt (linesM L f) i=x.id∧textAt (linesM L f) i=x.text:=by
 have hl:=aliveX_lt h;have h1:=List.getElem?_eq_getElem hl;refine⟨_,h1,?_,?_,textAt_get h1⟩
 · have h2:=(List.mem_filter.1 h).2;unfold aliveQL deadLine at h2;rw [h1] at h2;simpa using h2
 unfold vidAt;rw [getD_of h1]
theorem alive_place(hw:WfG L){i:Nat}(h:i∈aliveX (linesM L f) (relM L f)):placeM (linesM L f) (vidAt (linesM L f) i)=i∧vidAt (linesM L f) i∈(linesM L f).map (·.id):=by obtain⟨x,h1,_,h3,_⟩:=alive_get h;rw [h3];exact⟨place_at (lines_ids (wf_len hw) f) h1,List.mem_map.2 ⟨x,List.mem_of_getElem? h1,rfl⟩⟩
theorem mem_aliveV(hw:WfG L){v:VidM}:v∈aliveV L f↔∃ x,vertM L v=some x∧x.kind=3∧x.file=f∧x.dead=false:=by
 unfold aliveV;rw [List.mem_map];constructor
 · rintro⟨i,hi,rfl⟩;obtain⟨x,h1,h2,h3,_⟩:=alive_get hi;obtain⟨k1,k2,k3⟩:=(mem_lines hw).1 (List.mem_of_getElem? h1);rw [h3];exact⟨x,k1,k2,k3,h2⟩
 rintro⟨x,h1,h2,h3,h4⟩;have e:=vertM_id h1;subst e;obtain⟨i,hi⟩:=List.getElem?_of_mem ((mem_lines (f:=f) hw).2 ⟨h1,h2,h3⟩);have hl:=(List.getElem?_eq_some_iff.1 hi).1;refine⟨i,?_,?_⟩
 · unfold aliveX;refine List.mem_filter.2 ⟨order_mem _ _ hl,?_⟩;unfold aliveQL deadLine;rw [hi];show(!x.dead)=true;rw [h4];rfl
 unfold vidAt;rw [getD_of hi]
theorem nodup_aliveV(hw:WfG L):(aliveV L f).Nodup:=by
 unfold aliveV;have hn:(aliveX (linesM L f) (relM L f)).Nodup:=by unfold aliveX;exact(order_nodup _ _).filter _
 rw [List.Nodup,List.pairwise_map];refine List.Pairwise.imp_of_mem ?_ hn;intro a b ha hb hne e;have h1:=(alive_place hw ha).1;have h2:=(alive_place hw hb).1;rw [e,h2] at h1;exact hne h1.symm
def textV(L:List PatchM)(v:VidM):ByteArray:=((vertM L v).getD noVert).text
theorem texts_aliveV(hw:WfG L):(aliveX (linesM L f) (relM L f)).map (textAt (linesM L f))=(aliveV L f).map (textV L):=by unfold aliveV;rw [List.map_map];refine List.map_congr_left fun i hi => ?_;obtain⟨x,h1,_,h3,h4⟩:=alive_get hi;show textAt (linesM L f) i=textV L (vidAt (linesM L f) i);rw [h3,h4];unfold textV;rw [((mem_lines hw).1 (List.mem_of_getElem? h1)).1];rfl
theorem chainV(hw:WfG L):(aliveX (linesM L f) (relM L f)).Pairwise (BeforeP (relM L f))↔(aliveV L f).Pairwise (BeforeV L f):=by
 unfold aliveV;rw [List.pairwise_map];constructor
 · refine fun h=>List.Pairwise.imp_of_mem ?_ h;intro a b ha hb q;obtain⟨a1,a2⟩:=alive_place hw ha;obtain⟨b1,b2⟩:=alive_place hw hb;rw [← before_iff hw a2 b2,a1,b1];exact q
 refine fun h=>List.Pairwise.imp_of_mem ?_ h;intro a b ha hb q;obtain⟨a1,a2⟩:=alive_place hw ha;obtain⟨b1,b2⟩:=alive_place hw hb;rw [← before_iff hw a2 b2,a1,b1] at q;exact q
end
structure Iso (σ:VidM→VidM) (A B:List PatchM):Prop where
 inv:∀ v,σ (σ v)=v
 no:σ noVid=noVid
 vert:∀ v,vertM B (σ v)=(vertM A v).map fun x=>⟨σ x.id,x.kind,σ x.file,x.text,x.dead⟩
 edge:∀ u v,hasE B (σ u,σ v)=hasE A (u,v)
namespace Iso
variable {σ : VidM → VidM} {A B : List PatchM}
theorem inj(h:Iso σ A B){u v:VidM}(e:σ u=σ v):u=v:=by rw [← h.inv u,← h.inv v,e]
theorem symm(h:Iso σ A B):Iso σ B A:=by
 refine⟨h.inv,h.no,fun v => ?_,fun u v => ?_⟩
 ·
  have h1:=h.vert (σ v);rw [h.inv] at h1;rw [h1,Option.map_map];cases vertM A (σ v) with
  | none=>rfl
  | some x=>simp [h.inv]
 have h1:=h.edge (σ u) (σ v);rw [h.inv,h.inv] at h1;exact h1.symm
theorem vertS(h:Iso σ A B){v:VidM}{x:VertM}(hx:vertM A v=some x):vertM B (σ v)=some ⟨σ x.id,x.kind,σ x.file,x.text,x.dead⟩:=by rw [h.vert,hx];rfl
theorem file(h:Iso σ A B)(v:VidM):fileAt B (σ v)=σ (fileAt A v):=by
 unfold fileAt;rw [h.vert];cases vertM A v with
 | none=>exact h.no.symm
 | some x=>rfl
theorem step(h:Iso σ A B){f u v:VidM}(hs:StepV A f u v):StepV B (σ f) (σ u) (σ v):=by obtain⟨h1,h2⟩:=mem_steps.1 hs;refine mem_steps.2 ⟨by rw [h.edge];exact h1,?_⟩;show fileAt B (σ u)=σ f;rw [h.file];exact congrArg σ h2
theorem lead(h:Iso σ A B){f u v:VidM}(hl:LeadV (StepV A f) u v):LeadV (StepV B (σ f)) (σ u) (σ v):=by
 induction hl with
 | step q=>exact .step (h.step q)
 | more _ q ih=>exact .more ih (h.step q)
theorem leadBack(h:Iso σ A B){f u v:VidM}(hl:LeadV (StepV B (σ f)) (σ u) (σ v)):LeadV (StepV A f) u v:=by have:=h.symm.lead hl;rw [h.inv,h.inv,h.inv] at this;exact this
theorem before(h:Iso σ A B){f u v:VidM}(hb:BeforeV A f u v):BeforeV B (σ f) (σ u) (σ v):=⟨h.lead hb.1,fun q=>hb.2 (h.leadBack q)⟩
theorem alive(h:Iso σ A B)(hwa:WfG A)(hwb:WfG B){f v:VidM}(hv:v∈aliveV A f):σ v∈aliveV B (σ f):=by obtain⟨x,h1,h2,h3,h4⟩:=(mem_aliveV hwa).1 hv;exact(mem_aliveV hwb).2 ⟨_,h.vertS h1,h2,congrArg σ h3,h4⟩
theorem aliveBack(h:Iso σ A B)(hwa:WfG A)(hwb:WfG B){f v:VidM}(hv:v∈aliveV B (σ f)):σ v∈aliveV A f:=by have:=h.symm.alive hwb hwa hv;rw [h.inv] at this;exact this
theorem lines(h:Iso σ A B)(hwa:WfG A)(hwb:WfG B){f:VidM}(ho:lnOdd (linesM A f) (relM A f)=0) :
  lnSeen (linesM B (σ f)) (relM B (σ f))=lnSeen (linesM A f) (relM A f)∧lnOdd (linesM B (σ f)) (relM B (σ f))=0:=by
 have ca:=mt_chain ho;have va:=(chainV hwa).1 ca;have hcmp:∀ u∈aliveV A f,∀ v∈aliveV A f,u≠v→BeforeV A f u v∨BeforeV A f v u:=by
  intro u hu v hv hne;obtain⟨i,hi,rfl⟩:=List.mem_iff_getElem.1 hu;obtain⟨j,hj,rfl⟩:=List.mem_iff_getElem.1 hv;rcases Nat.lt_trichotomy i j with k|k|k
  · exact .inl (List.pairwise_iff_getElem.1 va i j hi hj k)
  · subst k;exact absurd rfl hne
  exact .inr (List.pairwise_iff_getElem.1 va j i hj hi k)
 have hn:(aliveX (linesM B (σ f)) (relM B (σ f))).Nodup:=by unfold aliveX;exact(order_nodup _ _).filter _
 have cb:(aliveX (linesM B (σ f)) (relM B (σ f))).Pairwise (BeforeP (relM B (σ f))):=by
  have h1:(aliveX (linesM B (σ f)) (relM B (σ f))).Pairwise fun a b=>¬ BeforeP (relM B (σ f)) b a:=by unfold aliveX;exact(order_pairs _ _).filter _
  refine List.Pairwise.imp_of_mem ?_ (h1.and hn);intro a b ha hb q;obtain⟨a1,a2⟩:=alive_place hwb ha;obtain⟨b1,b2⟩:=alive_place hwb hb;have ma:vidAt (linesM B (σ f)) a∈aliveV B (σ f):=List.mem_map.2 ⟨a,ha,rfl⟩;have mb:vidAt (linesM B (σ f)) b∈aliveV B (σ f):=List.mem_map.2 ⟨b,hb,rfl⟩;have hne:σ (vidAt (linesM B (σ f)) a)≠σ (vidAt (linesM B (σ f)) b):=fun e=>q.2 (by rw [← a1,← b1,h.inj e]);rcases hcmp _ (h.aliveBack hwa hwb ma) _ (h.aliveBack hwa hwb mb) hne with k|k
  · have k2:=h.before k;rw [h.inv,h.inv,← before_iff hwb a2 b2,a1,b1] at k2;exact k2
  have k2:=h.before k;rw [h.inv,h.inv,← before_iff hwb b2 a2,a1,b1] at k2;exact absurd k2 q.1
 have vb:=(chainV hwb).1 cb;obtain⟨s1,s2⟩:=mt_seen cb;obtain⟨s3,_⟩:=mt_seen ca;refine⟨?_,s2⟩;rw [s1,s3,texts_aliveV hwa,texts_aliveV hwb];have e:aliveV B (σ f)=(aliveV A f).map σ:=by
  have hn2:((aliveV A f).map σ).Nodup:=by rw [List.Nodup,List.pairwise_map];exact(nodup_aliveV hwa).imp fun q e=>q (h.inj e)
  have hp:(aliveV B (σ f)).Perm ((aliveV A f).map σ):=(List.perm_ext_iff_of_nodup (nodup_aliveV hwb) hn2).2 fun v=>by rw [List.mem_map];exact⟨fun q=>⟨σ v,h.aliveBack hwa hwb q,h.inv v⟩,fun⟨u,q,e⟩=>by rw [← e];exact h.alive hwa hwb q⟩
  refine hp.eq_of_pairwise (le:=BeforeV B (σ f)) (fun a b _ _ h1 h2=>absurd h2.1 h1.2) vb ?_;rw [List.pairwise_map];exact va.imp fun q=>h.before q
 rw [e,List.map_map];refine List.map_congr_left fun v hv => ?_;obtain⟨x,h1,_⟩:=(mem_aliveV hwa).1 hv;show textV B (σ v)=textV A v;unfold textV;rw [h.vertS h1,h1];rfl
end Iso
end Go.Proofs.YtjccmcgglfncdaaGreatDoor
namespace Go.Proofs.YtjccmcgglfncdaaGreatDoor
open Go Go.RowKit
theorem clean_to{L:List PatchM}:∀ k,(∀ n∈(allTo L k).1,n.flaws=[]) →
  (∀ v∈(((filesM L).take k).filter fun v => !deadAt L v),(namesM L v≠[]∧∀ x∈namesM L v,x.text=ownN L v)∧0<(allTo L k).2 (ownN L v)) ∧
  (∀ v∈(((filesM L).take k).filter fun v => !deadAt L v),∀ u∈(((filesM L).take k).filter fun v => !deadAt L v),ownN L v=ownN L u→v=u)
 | 0,_=>⟨fun v hv=>by simp at hv,fun v hv=>by simp at hv⟩
 | k+1,hfl=>by
  rcases Nat.lt_or_ge k (filesM L).length with hk|hk
  rotate_left
  · have e:allTo L (k+1)=allTo L k:=(by unfold allTo;rw [List.take_of_length_le (by omega),List.take_of_length_le hk]);have e2:(filesM L).take (k+1)=(filesM L).take k:=(by rw [List.take_of_length_le (by omega),List.take_of_length_le hk]);rw [e] at hfl ⊢;rw [e2];exact clean_to k hfl
  have hf:=List.getElem?_eq_getElem hk;rw [allTo_succ hf] at hfl ⊢;rw [take_one hf];generalize hF:(filesM L)[k]=f at hf hfl ⊢;unfold stepN at hfl ⊢
  by_cases hd:deadAt L f=true
  · rw [if_pos hd] at hfl ⊢;obtain⟨h1,h2⟩:=clean_to k hfl;have e:((((filesM L).take k)++[f]).filter fun v => !deadAt L v)=(((filesM L).take k).filter fun v => !deadAt L v):=(by rw [List.filter_append];simp [hd]);rw [e];exact⟨h1,h2⟩
  rw [if_neg hd] at hfl ⊢;obtain⟨h1,h2⟩:=clean_to k fun n hn=>hfl n (List.mem_append_left _ hn);have h3:=hfl _ (List.mem_append_right _ (List.mem_singleton.2 rfl));have e:((((filesM L).take k)++[f]).filter fun v => !deadAt L v)=(((filesM L).take k).filter fun v => !deadAt L v)++[f]:=by rw [List.filter_append];simp [hd]
  rw [e];cases hn:namesM L f with
  | nil=>rw [hn] at h3;exact absurd h3 (by unfold nameOne;simp)
  | cons x l =>
   rw [hn] at h3;unfold nameOne at h3;simp only [List.append_eq_nil_iff] at h3;obtain⟨g1,g2⟩:=h3;have a1:(alsoM (x :: l) x.text).length=0:=by refine Classical.byContradiction fun q => ?_;rw [if_neg q] at g1;cases g1
   have a2:(allTo L k).2 x.text=0:=by refine Classical.byContradiction fun q => ?_;rw [if_pos (by omega)] at g2;cases g2
   have own:ownN L f=x.text:=(by unfold ownN;rw [hn];rfl);have hb:∀ u,bumpL (allTo L k).2 (x :: l) u=if u=x.text then(allTo L k).2 x.text+1 else(allTo L k).2 u:=fun u=>rfl;constructor
   ·
    intro v hv;show _∧0<bumpL (allTo L k).2 (x :: l) (ownN L v);rw [hb];rcases List.mem_append.1 hv with hv|hv
    ·
     obtain⟨k1,k2⟩:=h1 v hv;refine⟨k1,?_⟩;split
     · omega
     exact k2
    rw [List.mem_singleton.1 hv,own,if_pos rfl];refine⟨⟨by rw [hn];simp,?_⟩,by omega⟩;rw [hn];exact alsoM_nil a1
   intro v hv u hu q;rcases List.mem_append.1 hv with hv|hv
   ·
    rcases List.mem_append.1 hu with hu|hu
    · exact h2 v hv u hu q
    have:=(h1 v hv).2;rw [q,List.mem_singleton.1 hu,own,a2] at this;omega
   rcases List.mem_append.1 hu with hu|hu
   · have:=(h1 u hu).2;rw [← q,List.mem_singleton.1 hv,own,a2] at this;omega
   rw [List.mem_singleton.1 hv,List.mem_singleton.1 hu]
theorem calm_of{L:List PatchM}(hw:WfG L)(h:cleanM L=true):Calm L∧∀ v∈liveF L,lnOdd (linesM L v) (relM L v)=0:=by
 unfold cleanM at h;rw [List.all_eq_true] at h;have h0:∀ n∈allM L,oddN L n=0∧n.flaws=[]:=fun n hn=>by have:=h n hn;simpa using this
 obtain⟨h1,h2⟩:=clean_to (L:=L) (filesM L).length fun n hn=>(h0 n hn).2;rw [List.take_length] at h1 h2;have hc:Calm L:=⟨fun v hv=>(h1 v hv).1,h2⟩;refine⟨hc,fun v hv => ?_⟩;exact(h0 ⟨v,ownN L v,[],[]⟩ (by rw [calm_all hw hc];exact List.mem_map.2 ⟨v,hv,rfl⟩)).1
theorem clean_calm{L:List PatchM}(hw:WfG L)(h:Calm L)(ho:∀ v∈liveF L,lnOdd (linesM L v) (relM L v)=0):cleanM L=true:=by unfold cleanM;rw [List.all_eq_true,calm_all hw h];intro n hn;obtain⟨v,hv,rfl⟩:=List.mem_map.1 hn;have:oddN L ⟨v,ownN L v,[],[]⟩=0:=ho v hv;simp [this]
theorem live_nodup{L:List PatchM}(hw:WfG L):(liveF L).Nodup:=by unfold liveF filesM;have h1:=rises_vertsM (wf_len hw);unfold Rises at h1;unfold List.Nodup;refine List.Pairwise.filter _ ?_;rw [List.pairwise_map];refine(h1.filter _).imp fun {a b} h e => ?_;unfold vertKey at h;rw [e] at h;omega
namespace Iso
variable {σ : VidM → VidM} {A B : List PatchM}
theorem live(h:Iso σ A B)(hwa:WfG A)(hwb:WfG B){v:VidM}(hv:v∈liveF A):σ v∈liveF B:=by obtain⟨x,h1,h2,h3⟩:=(live_mem (wf_len hwa)).1 hv;exact(live_mem (wf_len hwb)).2 ⟨_,h.vertS h1,h2,h3⟩
theorem liveBack(h:Iso σ A B)(hwa:WfG A)(hwb:WfG B){v:VidM}(hv:v∈liveF B):σ v∈liveF A:=h.symm.live hwb hwa hv
theorem name(h:Iso σ A B)(hwa:WfG A)(hwb:WfG B){v:VidM}{x:VertM}(hx:x∈namesM A v):∃ y∈namesM B (σ v),y.text=x.text:=by obtain⟨h1,h2,h3,h4⟩:=(names_mem (wf_len hwa)).1 hx;refine⟨⟨σ x.id,x.kind,σ x.file,x.text,x.dead⟩,(names_mem (wf_len hwb)).2 ⟨h.vertS h1,h2,congrArg σ h3,h4⟩,rfl⟩
theorem calm(h:Iso σ A B)(hwa:WfG A)(hwb:WfG B)(hc:Calm A):Calm B∧∀ v∈liveF A,ownN B (σ v)=ownN A v:=by
 have key:∀ v∈liveF A,(namesM B (σ v)≠[]∧∀ x∈namesM B (σ v),x.text=ownN A v):=by
  intro v hv;obtain⟨h1,h2⟩:=hc.one v hv;constructor
  · obtain⟨x,hx⟩:=List.exists_mem_of_ne_nil _ h1;obtain⟨y,hy,_⟩:=h.name hwa hwb hx;exact List.ne_nil_of_mem hy
  intro x hx;obtain⟨y,hy,e⟩:=h.symm.name hwb hwa hx;rw [h.inv] at hy;rw [← e];exact h2 y hy
 have own:∀ v∈liveF A,ownN B (σ v)=ownN A v:=by
  intro v hv;obtain⟨h1,h2⟩:=key v hv;unfold ownN at h2 ⊢;cases hn:namesM B (σ v) with
  | nil=>exact absurd hn h1
  | cons x l=>exact h2 x (by rw [hn];exact List.mem_cons_self ..)
 refine⟨⟨fun v hv => ?_,fun v hv u hu e => ?_⟩,own⟩
 · have h1:=key _ (h.liveBack hwa hwb hv);rw [h.inv] at h1;have h2:=own _ (h.liveBack hwa hwb hv);rw [h.inv] at h2;rw [h2];exact h1
 have h1:=own _ (h.liveBack hwa hwb hv);have h2:=own _ (h.liveBack hwa hwb hu);rw [h.inv] at h1 h2;exact h.inj (hc.inj _ (h.liveBack hwa hwb hv) _ (h.liveBack hwa hwb hu) (by rw [← h1,← h2,e]))
theorem clean(h:Iso σ A B)(hwa:WfG A)(hwb:WfG B)(hc:cleanM A=true):cleanM B=true∧∀ t,IsTree A t→IsTree B t:=by
 obtain⟨ca,oa⟩:=calm_of hwa hc;obtain⟨cb,own⟩:=h.calm hwa hwb ca;have ob:∀ v∈liveF B,lnOdd (linesM B v) (relM B v)=0:=fun v hv=>by have:=(h.lines hwa hwb (oa _ (h.liveBack hwa hwb hv))).2;rw [h.inv] at this;exact this
 refine⟨clean_calm hwb cb ob,fun t ht=>⟨ht.perm.trans ?_,ht.rise⟩⟩;rw [calm_all hwa ca,calm_all hwb cb,List.map_map,List.map_map];have hp:((liveF A).map σ).Perm (liveF B):=by
  have hn2:((liveF A).map σ).Nodup:=by rw [List.Nodup,List.pairwise_map];exact(live_nodup hwa).imp fun q e=>q (h.inj e)
  refine(List.perm_ext_iff_of_nodup hn2 (live_nodup hwb)).2 fun v => ?_;rw [List.mem_map];exact⟨fun⟨u,q,e⟩=>by rw [← e];exact h.live hwa hwb q,fun q=>⟨σ v,h.liveBack hwa hwb q,h.inv v⟩⟩
 refine List.Perm.trans (List.Perm.of_eq ?_) (hp.map _);rw [List.map_map];refine List.map_congr_left fun v hv => ?_;show fileT A ⟨v,ownN A v,[],[]⟩=fileT B ⟨σ v,ownN B (σ v),[],[]⟩;unfold fileT;rw [own v hv,(h.lines hwa hwb (oa v hv)).1]
theorem clean_iff(h:Iso σ A B)(hwa:WfG A)(hwb:WfG B):cleanM A=cleanM B:=by rw [Bool.eq_iff_iff];exact⟨fun q=>(h.clean hwa hwb q).1,fun q=>(h.symm.clean hwb hwa q).1⟩
end Iso
end Go.Proofs.YtjccmcgglfncdaaGreatDoor
namespace Go.Proofs.YtjccmcgglfncdaaGreatDoor
open Go Go.RowKit
variable{P Q:List PatchM}{l:List VertM}
def swA(a:UInt8):UInt8:=if a=2 then 3 else if a=3 then 2 else a
def swP(p:PidM):PidM:=⟨swA p.author,p.seq⟩
def swV(v:VidM):VidM:=⟨swP v.pid,v.n⟩
def swO(o:OpM):OpM:=⟨o.kind,swV o.at',swV o.to,o.text⟩
theorem swA_inv(a:UInt8):swA (swA a)=a:=by
 unfold swA
 by_cases h2:a=2
 · subst h2;decide
 by_cases h3:a=3
 · subst h3;decide
 rw [if_neg h2,if_neg h3,if_neg h2,if_neg h3]
theorem swP_inv(p:PidM):swP (swP p)=p:=by unfold swP;rw [swA_inv]
theorem swV_inv(v:VidM):swV (swV v)=v:=by unfold swV;rw [swP_inv]
theorem swP_inj{p q:PidM}(h:swP p=swP q):p=q:=by rw [← swP_inv p,h,swP_inv]
theorem swV_inj{u v:VidM}(h:swV u=swV v):u=v:=by rw [← swV_inv u,h,swV_inv]
theorem swV_no:swV noVid=noVid:=rfl
theorem swV_new(id:PidM)(k:UInt8):swV ⟨id,k⟩=⟨swP id,k⟩:=rfl
def FixV(l:List VertM):Prop:=∀ x∈l,swV x.id=x.id
def FixG(L:List PatchM):Prop:=∀ v x,vertM L v=some x→swV v=v
theorem fix_getD(h:FixV l)(i:Nat):swV (l.getD i noVert).id=(l.getD i noVert).id:=by
 rcases Nat.lt_or_ge i l.length with hi|hi
 · rw [getD_of (List.getElem?_eq_getElem hi)];exact h _ (List.getElem_mem hi)
 rw [List.getD_eq_getElem?_getD,List.getElem?_eq_none hi];rfl
theorem vids_sw(h:FixV l)(id:PidM):∀(xs:List (Int × ByteArray)) (c:Nat),vidsE l (swP id) xs c=(vidsE l id xs c).map swV
 | [],_=>rfl
 | x :: r,c=>by
  unfold vidsE;split
  · rw [vids_sw h id r c,List.map_cons,fix_getD h]
  rw [vids_sw h id r (c+1),List.map_cons,swV_new]
theorem getD_sw(vs:List VidM)(k:Nat):(vs.map swV).getD k noVid=swV (vs.getD k noVid):=by rw [List.getD_eq_getElem?_getD,List.getD_eq_getElem?_getD,List.getElem?_map];cases vs[k]? <;> rfl
theorem edges_sw(R:List (Nat × Nat))(kept:List Int)(vs:List VidM)(j:Nat):edgesE R kept (vs.map swV) j=(edgesE R kept vs j).map swO:=by unfold edgesE;rw [getD_sw,getD_sw];split <;> rfl
theorem kill_sw(h:FixV l)(R:List (Nat × Nat))(want:List ByteArray):(egKill l R want).map swO=egKill l R want:=by unfold egKill killsE;rw [List.map_map];refine List.map_congr_left fun i _ => ?_;show swO ⟨5,(l.getD i noVert).id,noVid,⟨#[]⟩⟩=⟨5,(l.getD i noVert).id,noVid,⟨#[]⟩⟩;unfold swO;rw [fix_getD h,swV_no]
theorem lines_sw(h:FixV l)(R:List (Nat × Nat))(f:VidM)(id:PidM)(c:Nat)(want:List ByteArray):linesOps l R (swV f) (swP id) c want=(linesOps l R f id c want).map swO:=by rw [linesOps_eq,linesOps_eq];unfold pgOps;rw [List.map_append,List.map_append,kill_sw h,List.map_map];congr 1;unfold pgTies pgVids;rw [List.map_flatMap,vids_sw h];congr 1;funext j;exact edges_sw R _ _ j
theorem fix_nil:FixV []:=fun x hx=>absurd hx List.not_mem_nil
theorem file_sw(id:PidM)(c:Nat)(f:FileM):fileOps (swP id) c f=(fileOps id c f).map swO:=by unfold fileOps;rw [List.map_cons,List.map_cons,← lines_sw fix_nil];rfl
section
variable {L : List PatchM}
theorem all_file(hw:WfG L){n:NameM}(hn:n∈allM L):∃ x,vertM L n.file=some x:=by have h1:n.file∈(allTo L (filesM L).length).1.map (·.file):=List.mem_map.2 ⟨n,hn,rfl⟩;rw [all_live,List.take_length] at h1;obtain⟨x,h2,_⟩:=(live_mem (wf_len hw)).1 (show n.file∈liveF L from h1);exact⟨x,h2⟩
theorem fix_lines(hw:WfG L)(hf:FixG L)(f:VidM):FixV (linesM L f):=fun x hx=>hf _ _ ((mem_lines hw).1 hx).1
theorem killOp_sw{v:VidM}(h:swV v=v):swO (killOp v)=killOp v:=by unfold killOp swO;rw [h];rfl
theorem kills_sw(hw:WfG L)(hf:FixG L)(t:List FileM)(k:Nat):(killsTo L t k).map swO=killsTo L t k:=by
 refine(List.map_congr_left fun o ho => ?_).trans (List.map_id _);unfold killsTo at ho;obtain⟨n,hn,ho⟩:=List.mem_flatMap.1 ho;have hn2:n∈allM L:=List.mem_of_mem_take hn;unfold killsN at ho;split at ho
 · rw [List.mem_singleton.1 ho];obtain⟨x,hx⟩:=all_file hw hn2;exact killOp_sw (hf _ _ hx)
 obtain⟨x,hx,rfl⟩:=List.mem_map.1 ho;exact killOp_sw (hf _ _ ((names_mem (wf_len hw)).1 (List.mem_filter.1 hx).1).1)
theorem edTo_sw(hw:WfG L)(hf:FixG L)(t:List FileM)(id:PidM):∀ k,edTo L t (swP id) k=(edTo L t id k).map swO
 | 0=>(kills_sw hw hf t _).symm
 | k+1=>by
  have ih:=edTo_sw hw hf t id k;rcases Nat.lt_or_ge k (allM L).length with hk|hk
  ·
   have hn:=List.getElem?_eq_getElem hk;rw [edTo_succ hn,edTo_succ hn];unfold plEdStep;split
   · exact ih
   obtain⟨x,hx⟩:=all_file hw (List.getElem_mem hk);rw [List.map_append,ih,List.length_map,← lines_sw (fix_lines hw hf _),hf _ _ hx]
  have h1:∀ i,edTo L t i (k+1)=edTo L t i k:=fun i=>by unfold edTo;rw [List.take_of_length_le (by omega),List.take_of_length_le hk]
  rw [h1,h1];exact ih
theorem newTo_sw(hw:WfG L)(hf:FixG L)(t:List FileM)(id:PidM):∀ k,newTo L t (swP id) k=(newTo L t id k).map swO
 | 0=>edTo_sw hw hf t id _
 | k+1=>by
  have ih:=newTo_sw hw hf t id k;rcases Nat.lt_or_ge k t.length with hk|hk
  ·
   have hn:=List.getElem?_eq_getElem hk;rw [newTo_succ hn,newTo_succ hn];unfold newStep;split
   · exact ih
   rw [List.map_append,ih,List.length_map,file_sw]
  have h1:∀ i,newTo L t i (k+1)=newTo L t i k:=fun i=>by unfold newTo;rw [List.take_of_length_le (by omega),List.take_of_length_le hk]
  rw [h1,h1];exact ih
theorem plan_sw(hw:WfG L)(hf:FixG L)(t:List FileM)(id:PidM):planM L t (swP id)=(planM L t id).map swO:=newTo_sw hw hf t id _
end
def RenP(p q:PatchM):Prop:=q.id=swP p.id∧q.ops=p.ops.map swO
inductive RenL:List PatchM→List PatchM→Prop
 | nil:RenL [] []
 | cons {p q:PatchM} {P Q:List PatchM}:RenP p q→RenL P Q→RenL (p :: P) (q :: Q)
theorem RenL.append{P' Q':List PatchM}(h:RenL P Q)(h':RenL P' Q'):RenL (P++P') (Q++Q'):=by
 induction h with
 | nil=>exact h'
 | cons h1 _ ih=>exact .cons h1 ih
theorem made_sw{p q:PatchM}(h:RenP p q)(v:VidM):madeBy q (swV v)=(madeBy p v).map swO:=by
 unfold madeBy;rw [h.1,h.2]
 by_cases e:p.id=v.pid
 ·
  rw [if_pos e,if_pos (show swP p.id=(swV v).pid from congrArg swP e),List.getElem?_map];show Option.filter _ (Option.map swO p.ops[v.n.toNat]?)=_;cases p.ops[v.n.toNat]? with
  | none=>rfl
  | some o =>simp only [Option.map_some,Option.filter];show(if makesB o.kind=true then some (swO o) else none)=_;split <;> rfl
 rw [if_neg e,if_neg (fun e':swP p.id=(swV v).pid=>e (swP_inj e'))];rfl
theorem RenL.vertOp(h:RenL P Q)(v:VidM):vertOp Q (swV v)=(vertOp P v).map swO:=by
 induction h with
 | nil=>rfl
 | cons h1 _ ih =>unfold Go.Proofs.YtjccmcgglfncdaaGreatDoor.vertOp at ih ⊢;rw [List.findSome?_cons,List.findSome?_cons,made_sw h1 v,ih];cases madeBy _ v <;> rfl
theorem RenL.dead(h:RenL P Q)(v:VidM):deadM Q (swV v)=deadM P v:=by
 induction h with
 | nil=>rfl
 | cons h1 _ ih =>unfold deadM at ih ⊢;rw [List.any_cons,List.any_cons,ih,h1.2,List.any_map];congr 1;congr 1;funext o;show(decide (o.kind=5) && decide (swV o.at'=swV v))=(decide (o.kind=5) && decide (o.at'=v));congr 1;exact decide_eq_decide.2 ⟨swV_inj,congrArg swV⟩
theorem RenL.hasE(h:RenL P Q)(u v:VidM):hasE Q (swV u,swV v)=hasE P (u,v):=by
 induction h with
 | nil=>rfl
 | cons h1 _ ih =>
  unfold Go.Proofs.YtjccmcgglfncdaaGreatDoor.hasE at ih ⊢;rw [List.any_cons,List.any_cons,ih,h1.2,List.any_map];congr 1;congr 1;funext o;show(decide (o.kind=4) && (decide (swV o.at'=swV u) && decide (swV o.to=swV v)))=(decide (o.kind=4) && (decide (o.at'=u) && decide (o.to=v)));congr 1;congr 1
  · exact decide_eq_decide.2 ⟨swV_inj,congrArg swV⟩
  · exact decide_eq_decide.2 ⟨swV_inj,congrArg swV⟩
theorem RenL.vertM(h:RenL P Q)(v:VidM):vertM Q (swV v)=(vertM P v).map fun x=>⟨swV x.id,x.kind,swV x.file,x.text,x.dead⟩:=by
 unfold Go.Proofs.YtjccmcgglfncdaaGreatDoor.vertM;rw [h.vertOp,h.dead];cases Go.Proofs.YtjccmcgglfncdaaGreatDoor.vertOp P v with
 | none=>rfl
 | some o =>
  simp only [Option.map_some];have e:fileOf (swV v) (swO o)=swV (fileOf v o):=by unfold fileOf;show(if o.kind=1 then swV v else swV o.at')=_;split <;> rfl
  rw [e];rfl
theorem RenL.iso(h:RenL P Q):Iso swV P Q:=⟨swV_inv,swV_no,h.vertM,h.hasE⟩
end Go.Proofs.YtjccmcgglfncdaaGreatDoor
namespace Go.Proofs.YtjccmcgglfncdaaGreatDoor
open Go Go.RowKit
section
variable {L : List PatchM} {t u : List FileM} {a b : UInt8}
theorem mgP_form(hw:WfG L)(ht:treeGood t=true)(ha:authorOk a=true)(hv:vecM L a<60000) :
  ((planM L t (nextM L a)).length=0∨200<(planM L t (nextM L a)).length)∧mgP L t a=[] ∨
  (¬ ((planM L t (nextM L a)).length=0∨200<(planM L t (nextM L a)).length))∧mgP L t a=[pgPat (nextM L a) (planM L t (nextM L a))]:=by
 rcases pg_rec hw ht ha hv with⟨h0,hr,_,_⟩|⟨h1,hr⟩|⟨hl,hr,_,hchk,_,_,_,_⟩
 · exact .inl ⟨.inl h0,by unfold mgP;rw [hr];rfl⟩
 · exact .inl ⟨.inr h1,by unfold mgP;rw [hr];rfl⟩
 refine .inr ⟨?_,by unfold mgP;rw [hr];rfl⟩;rintro(q|q)
 ·
  have:recI L t (nextM L a)=(none,6):=by
   rcases pg_rec hw ht ha hv with⟨_,hr2,_,_⟩|⟨h1,_⟩|⟨_,_,hok,_,_,_,_,_⟩
   · exact hr2
   · omega
   have hg:=hok.good;have h2:=(goodP_len hg).1;have h3:(pgPat (nextM L a) (planM L t (nextM L a))).ops.length=0:=q;omega
  rw [this] at hr;cases hr
 omega
theorem mg_renOne(hw:WfG L)(ht:treeGood t=true)(hf:FixG L)(ha:authorOk a=true)(hb:authorOk b=true)(va:vecM L a<60000)(vb:vecM L b<60000)(hn:nextM L b=swP (nextM L a)):RenL (mgP L t a) (mgP L t b):=by
 have hl:=planM_len_id L t (nextM L a) (nextM L b);rcases mgP_form (a:=a) hw ht ha va with⟨h1,e1⟩|⟨h1,e1⟩
 ·
  rcases mgP_form (a:=b) hw ht hb vb with⟨h2,e2⟩|⟨h2,e2⟩
  · rw [e1,e2];exact .nil
  rw [hl] at h1;exact absurd h1 h2
 rcases mgP_form (a:=b) hw ht hb vb with⟨h2,e2⟩|⟨h2,e2⟩
 · rw [hl] at h1;exact absurd h2 h1
 rw [e1,e2];refine .cons ⟨hn,?_⟩ .nil;show planM L t (nextM L b)=(planM L t (nextM L a)).map swO;rw [hn,plan_sw hw hf]
theorem sides_one(hw:WfG L)(ho:OneId L)(hab:a≠b)(h1:SideIs L t a)(h2:SideIs L u b):OneId (L++(mgP L t a++mgP L u b)):=by
 rcases h1.one with e1|⟨p,e1,c1,a1,_,_⟩
 ·
  rw [e1,List.nil_append];rcases h2.one with e2|⟨q,e2,c2,_,_,_⟩
  · rw [e2,List.append_nil];exact ho
  rw [e2];exact one_snoc ho (check_ok c2).new
 have o1:=one_snoc ho (check_ok c1).new;rcases h2.one with e2|⟨q,e2,c2,a2,_,_⟩
 · rw [e1,e2,List.append_nil];exact o1
 rw [e1,e2,← List.append_assoc];refine one_snoc o1 ?_;rw [hasM_snoc,(check_ok c2).new];have hne:p.id≠q.id:=fun e=>hab (by rw [← a1,← a2,e]);simp [hne]
end
section
variable {ta tb tc : List FileM}
theorem mg1_auth(ga:treeGood ta=true):∀ p∈mg1 ta,p.id.author=1:=by
 intro p hp;rcases (mg1_is ga).one with e|⟨q,e,_,h,_⟩
 · unfold mg1 at hp;rw [e] at hp;cases hp
 unfold mg1 at hp;rw [e] at hp;rw [List.mem_singleton.1 hp];exact h
theorem mg1_fix(ga:treeGood ta=true):FixG (mg1 ta):=by
 intro v x hx;unfold vertM at hx;cases ho:vertOp (mg1 ta) v with
 | none=>rw [ho] at hx;cases hx
 | some o =>
  unfold vertOp at ho;obtain⟨p,hp,hm⟩:=List.exists_of_findSome?_eq_some ho;unfold madeBy at hm;split at hm
  · rename_i e;have h1:=mg1_auth ga p hp;rw [e] at h1;unfold swV swP;rw [h1];obtain⟨⟨v1,v2⟩,v3⟩:=v;have h1':v1=1:=h1;subst h1';rfl
  · cases hm
theorem mg1_vec(ga:treeGood ta=true){a:UInt8}(ha:a≠1):vecM (mg1 ta) a=0:=by unfold vecM;rw [List.length_eq_zero_iff,List.filter_eq_nil_iff];intro p hp;have:=mg1_auth ga p hp;simp [this,Ne.symm ha]
theorem mg1_next(ga:treeGood ta=true):nextM (mg1 ta) 2=⟨2,1⟩∧nextM (mg1 ta) 3=⟨3,1⟩:=by unfold nextM;rw [mg1_vec ga (by decide),mg1_vec ga (by decide)];exact⟨by decide,by decide⟩
theorem fixG_nil:FixG []:=fun v x hx=>by cases hx
theorem mg1_ren(ga:treeGood ta=true):RenL (mg1 ta) (mg1 ta):=by unfold mg1;refine mg_renOne wf_nil ga fixG_nil (by decide) (by decide) (by decide) (by decide) ?_;decide
theorem mg_swap(ga:treeGood ta=true)(gb:treeGood tb=true)(gc:treeGood tc=true):Iso swV (mgL2 ta tb tc) (mgL2 ta tc tb):=by
 have hw:=mg1_wf ga;have ho:=mg1_one ga;have hf:=mg1_fix ga;obtain⟨n2,n3⟩:=mg1_next ga;have v2:vecM (mg1 ta) 2<60000:=by rw [mg1_vec ga (by decide)];decide
 have v3:vecM (mg1 ta) 3<60000:=by rw [mg1_vec ga (by decide)];decide
 have rb:RenL (mgP (mg1 ta) tb 2) (mgP (mg1 ta) tb 3):=mg_renOne hw gb hf (by decide) (by decide) v2 v3 (by rw [n2,n3];decide);have rc:RenL (mgP (mg1 ta) tc 3) (mgP (mg1 ta) tc 2):=mg_renOne hw gc hf (by decide) (by decide) v3 v2 (by rw [n2,n3];decide);have hr:RenL (mgL2 ta tb tc) (mg1 ta++(mgP (mg1 ta) tb 3++mgP (mg1 ta) tc 2)):=(mg1_ren ga).append (rb.append rc);have hiso:=hr.iso;have hmem:∀ p,p∈mg1 ta++(mgP (mg1 ta) tb 3++mgP (mg1 ta) tc 2)↔p∈mgL2 ta tc tb:=by intro p;unfold mgL2;simp only [List.mem_append];exact⟨fun h=>h.imp id Or.symm,fun h=>h.imp id Or.symm⟩
 have oB:OneId (mgL2 ta tc tb):=sides_one hw ho (by decide) (mg_side ga gc (by decide)) (mg_side ga gb (by decide));have oQ:OneId (mg1 ta++(mgP (mg1 ta) tb 3++mgP (mg1 ta) tc 2)):=sides_one hw ho (by decide) (mg_side ga gb (by decide)) (mg_side ga gc (by decide));have ev:=vertM_same oQ oB hmem;have ee:=hasE_same hmem;exact⟨hiso.inv,hiso.no,fun v=>by rw [← ev];exact hiso.vert v,fun x y=>by rw [← ee];exact hiso.edge x y⟩
theorem mg_wf(ga:treeGood ta=true)(gb:treeGood tb=true)(gc:treeGood tc=true):WfG (mgL2 ta tb tc):=
 (sides_check (mg1_wf ga) (mg1_one ga) (by decide) (mg_side ga gb (by decide)) (mg_side ga gc (by decide))).2.1
theorem mg_turns(ga:treeGood ta=true)(gb:treeGood tb=true)(gc:treeGood tc=true) :
  cleanM (mgL2 ta tb tc)=cleanM (mgL2 ta tc tb)∧(cleanM (mgL2 ta tb tc)=true→∀ t u,IsTree (mgL2 ta tb tc) t→IsTree (mgL2 ta tc tb) u→t=u):=by have h:=mg_swap ga gb gc;have w1:=mg_wf ga gb gc;have w2:=mg_wf ga gc gb;exact⟨h.clean_iff w1 w2,fun hc t u ht hu=>tree_one ((h.clean w1 w2 hc).2 t ht) hu⟩
theorem mg_longTurn(ga:treeGood ta=true)(gb:treeGood tb=true)(gc:treeGood tc=true):MgLong ta tb tc↔MgLong ta tc tb:=by
 have key:∀ {t:List FileM},treeGood t=true→(mgC (mg1 ta) t 2=3↔mgC (mg1 ta) t 3=3):=fun {t} ht=>by rw [(mg_side ga ht (a:=2) (by decide)).long,(mg_side ga ht (a:=3) (by decide)).long,planM_len_id (mg1 ta) t (nextM (mg1 ta) 2) (nextM (mg1 ta) 3)]
 unfold MgLong;rw [key gb,← key gc];exact⟨fun h=>h.imp id Or.symm,fun h=>h.imp id Or.symm⟩
end
end Go.Proofs.YtjccmcgglfncdaaGreatDoor
namespace Go.Proofs.YtjccmcgglfncdaaGreatDoor
open Go Go.RowKit
theorem few55_any(a1 a2 a3:Option Addr)(n1 n2 n3 c1 c2 c3:Nat)(ta tb tc:List FileM)(w:World)(ha:FRow w (.slice a1 n1 c1) ta)(hb:FRow w (.slice a2 n2 c2) tb)(hc:FRow w (.slice a3 n3 c3) tc) :
  Calls Tryz.prog 30 #[.agg #[.slice a1 n1 c1,.slice a2 n2 c2,.slice a3 n3 c3]] w fun e w'=>e=.returned (.bool (few15 ta && (few15 tb && few15 tc)))∧Be w w':=by
 have HA:=Lh ha;have HB:=Lh hb;have HC:=Lh hc;clear ha hb hc;have HX1:=Lh (anw w #[.slice a1 n1 c1,.slice a2 n2 c2,.slice a3 n3 c3] 67);have HB1:=Lh (bnew (w:=w) (.cells #[.slice a1 n1 c1,.slice a2 n2 c2,.slice a3 n3 c3] 67));go_enter Tryz.func30,Tryz.ntmps30;go_upto_region 1 with fail;obtain⟨g,hg⟩:∃ g,w.heap.size=g:=⟨_,rfl⟩;rw [hg] at HX1 ⊢;clear hg;generalize w.alloc (.cells #[.slice a1 n1 c1,.slice a2 n2 c2,.slice a3 n3 c3] 67)=w1 at *;obtain⟨x0,x1,x2,sx⟩:=HX1.o.c3;go_wp2_with fail;refine(few15_any _ ta w1 (HA.o.over HB1.o)).mono ?_;rintro e w2 ⟨rfl,hb⟩;have HB2:=Lh (bvo HB1.o hb);have HX2:=Lh (HX1.o.over hb);clear hb x0 x1 x2 sx;cases hq1:few15 ta with
 | false =>unfold fewV;have HQ1:=Lh hq1;clear hq1;obtain⟨x0,x1,x2,sx⟩:=HX2.o.c3;go_wp2;go_ret;exact⟨by rw [HQ1.o];rfl,HB2.o⟩
 | true =>
  unfold fewV;have HQ1:=Lh hq1;clear hq1;obtain⟨x0,x1,x2,sx⟩:=HX2.o.c3;go_wp2_with fail;refine(few15_any _ tb w2 (HB.o.over HB2.o)).mono ?_;rintro e w3 ⟨rfl,hb⟩;have HB3:=Lh (bvo HB2.o hb);have HX3:=Lh (HX2.o.over hb);clear hb x0 x1 x2 sx;cases hq2:few15 tb with
  | false =>unfold fewV;have HQ2:=Lh hq2;clear hq2;obtain⟨x0,x1,x2,sx⟩:=HX3.o.c3;go_wp2;go_ret;exact⟨by rw [HQ1.o,HQ2.o];rfl,HB3.o⟩
  | true =>
   unfold fewV;have HQ2:=Lh hq2;clear hq2;obtain⟨x0,x1,x2,sx⟩:=HX3.o.c3;go_wp2_with fail;refine(few15_any _ tc w3 (HC.o.over HB3.o)).mono ?_;rintro e w4 ⟨rfl,hb⟩;have HB4:=Lh (bvo HB3.o hb);have HX4:=Lh (HX3.o.over hb);clear hb x0 x1 x2 sx;cases hq3:few15 tc with
   | false =>unfold fewV;have HQ3:=Lh hq3;clear hq3;obtain⟨x0,x1,x2,sx⟩:=HX4.o.c3;go_wp2;go_ret;exact⟨by rw [HQ1.o,HQ2.o,HQ3.o];rfl,HB4.o⟩
   | true =>unfold fewV;have HQ3:=Lh hq3;clear hq3;obtain⟨x0,x1,x2,sx⟩:=HX4.o.c3;go_wp2;go_ret;exact⟨by rw [HQ1.o,HQ2.o,HQ3.o];rfl,HB4.o⟩
def BadRes(w:World)(e:Ending)(w':World):Prop:=e=.returned (.tuple #[.slice none 0 0,.bool false,.int .i64 4])∧Be w w'
theorem threeBad_any(va vb vc:Value)(ta tb tc:List FileM)(w:World)(ha:FRow w va ta)(hb:FRow w vb tb)(hc:FRow w vc tc)(sa:SzT ta)(sb:SzT tb)(sc:SzT tc)(hbad:¬ (treeGood ta=true∧treeGood tb=true∧treeGood tc=true)) :
  Calls Tryz.prog 29 #[va,vb,vc] w (BadRes w):=by
 obtain⟨a1,c1,e1,_,_,_,_⟩:=ha.form;obtain⟨a2,c2,e2,_,_,_,_⟩:=hb.form;obtain⟨a3,c3,e3,_,_,_,_⟩:=hc.form;obtain⟨n1,hn1⟩:∃ n,ta.length=n:=⟨_,rfl⟩;obtain⟨n2,hn2⟩:∃ n,tb.length=n:=⟨_,rfl⟩;obtain⟨n3,hn3⟩:∃ n,tc.length=n:=⟨_,rfl⟩;rw [hn1] at e1;rw [hn2] at e2;rw [hn3] at e3;subst e1 e2 e3;have HA:=Lh ha;have HBt:=Lh hb;have HC:=Lh hc;have SA:=Lh sa;have SB:=Lh sb;have SC:=Lh sc;have HBad:=Lh hbad;clear ha hb hc sa sb sc hbad hn1 hn2 hn3;go_enter Tryz.func29,Tryz.ntmps29;go_upto_region 2 with fail;have HX:=Lh (anw w #[.slice a1 n1 c1,.slice a2 n2 c2,.slice a3 n3 c3] 27);have HB1:=Lh (bnew (w:=w) (.cells #[.slice a1 n1 c1,.slice a2 n2 c2,.slice a3 n3 c3] 27));obtain⟨g,hg⟩:∃ g,w.heap.size=g:=⟨_,rfl⟩;generalize w.alloc (.cells #[.slice a1 n1 c1,.slice a2 n2 c2,.slice a3 n3 c3] 27)=w1 at *;rw [hg] at HX ⊢;clear hg;go_wp2;go_loopw [28] (fun v28 wr=>∃ k:Nat,k≤3∧v28=.int .i64 k∧Hid (Be w1 wr)∧Hid ((0<k→treeGood ta=true)∧(1<k→treeGood tb=true)∧(2<k→treeGood tc=true))) (fun v28 _=>3 - (intOf v28).toNat)
 case atStart=>exact⟨0,by omega,rfl,Below.refl _ _,Lh ⟨fun h=>absurd h (by decide),fun h=>absurd h (by decide),fun h=>absurd h (by decide)⟩⟩
 obtain⟨k,hk,rfl,HBl,HGk⟩:=hrel;rename World=>wr;have HXr:=Lh (HX.o.over HBl.o)
 by_cases hlt:k<3
 rotate_left
 ·
  exfalso;obtain rfl:k=3:=by omega
  obtain⟨q1,q2,q3⟩:=HGk.o;exact HBad.o ⟨q1 (by decide),q2 (by decide),q3 (by decide)⟩
 obtain⟨vt,tt,hcell,HF,HS,HK⟩:∃(vt:Value) (tt:List FileM),wr.cell? ⟨g,k,none⟩=some vt∧Hid (FRow wr vt tt)∧Hid (SzT tt)∧Hid (treeGood tt=true→(0<k+1→treeGood ta=true)∧(1<k+1→treeGood tb=true)∧(2<k+1→treeGood tc=true)):=by
  have hbl:=bvo HB1.o HBl.o;obtain⟨q1,q2,q3⟩:=HGk.o;rcases (by omega:k=0∨k=1∨k=2) with rfl|rfl|rfl
  · exact⟨_,ta,HXr.o.k 0 rfl,HA.o.over hbl,SA,Lh fun h=>⟨fun _=>h,fun h=>absurd h (by decide),fun h=>absurd h (by decide)⟩⟩
  · exact⟨_,tb,HXr.o.k 1 rfl,HBt.o.over hbl,SB,Lh fun h=>⟨fun _=>q1 (by decide),fun _=>h,fun h=>absurd h (by decide)⟩⟩
  exact⟨_,tc,HXr.o.k 2 rfl,HC.o.over hbl,SC,Lh fun h=>⟨fun _=>q1 (by decide),fun _=>q2 (by decide),fun _=>h⟩⟩
 have sx:=HXr.o.lt;have HGo:=Lh (good_any vt tt wr HF.o HS.o);clear HGk;cases hgt:treeGood tt with
 | false =>rw [hgt] at HGo;clear hgt HK;go_wp2_with fail;refine HGo.o.mono ?_;rintro e w2 ⟨rfl,hb2⟩;have HB2:=Lh (bvo HB1.o (bvo HBl.o hb2));clear hb2;go_wp2_with fail;refine bodyPost_ret (results_tmp3 rfl _ _ _) rfl ?_;exact⟨rfl,HB2.o⟩
 | true =>
  rw [hgt] at HGo;have HK2:=Lh (HK.o hgt);clear hgt HK;go_wp2_with fail;refine HGo.o.mono ?_;rintro e w2 ⟨rfl,hb2⟩;have HB2:=Lh (bvo HBl.o hb2);clear hb2;go_wp2;go_roundw
  case rel=>exact⟨k+1,hlt,by go_num,HB2,HK2⟩
  simp [intOf];omega
end Go.Proofs.YtjccmcgglfncdaaGreatDoor
