/- What is proved: MergeTurns, for every input; of the listed tables the walk needs the powers of ten. -/
import Derived.Test.YtjccmcgglfncdaaGreatDoorUGrP
set_option linter.unusedVariables false
set_option linter.unusedSimpArgs false
namespace Go.Proofs.YtjccmcgglfncdaaGreatDoor
variable{L:List (Nat × Nat)}{K out:List Nat}{g i j k n:Nat}
inductive Lead (L:List (Nat × Nat)):Nat→Nat→Prop
 | step {i j:Nat}:(i,j)∈L→Lead L i j
 | more {i k j:Nat}:Lead L i k→(k,j)∈L→Lead L i j
theorem Lead.trans(h:Lead L i k)(h':Lead L k j):Lead L i j:=by
 induction h' with
 | step h2=>exact .more h h2
 | more _ h2 ih=>exact .more ih h2
theorem Lead.from'(h:Lead L i j):∃ k,(i,k)∈L:=by
 induction h with
 | step h2=>exact⟨_,h2⟩
 | more _ _ ih=>exact ih
theorem Lead.into(h:Lead L i j):∃ k,(k,j)∈L:=by
 cases h with
 | step h2=>exact⟨_,h2⟩
 | more _ h2=>exact⟨_,h2⟩
theorem Lead.lt(hL:∀ s∈L,s.1<n∧s.2<n)(h:Lead L i j):i<n∧j<n:=by obtain⟨k,hk⟩:=h.from';obtain⟨m,hm⟩:=h.into;exact⟨(hL _ hk).1,(hL _ hm).2⟩
inductive Via (L:List (Nat × Nat)) (K:List Nat):Nat→Nat→Prop
 | step {i j:Nat}:(i,j)∈L→Via L K i j
 | join {i k j:Nat}:Via L K i k→k∈K→Via L K k j→Via L K i j
theorem Via.lead(h:Via L K i j):Lead L i j:=by
 induction h with
 | step h=>exact .step h
 | join _ _ _ h1 h2=>exact h1.trans h2
theorem Via.mono{K':List Nat}(hK:∀ k∈K,k∈K')(h:Via L K i j):Via L K' i j:=by
 induction h with
 | step h=>exact .step h
 | join _ hk _ h1 h2=>exact .join h1 (hK _ hk) h2
theorem via_nil:Via L [] i j↔(i,j)∈L:=
 ⟨fun h=>by cases h with|step h=>exact h|join _ hk _=>exact absurd hk (List.not_mem_nil),.step⟩
theorem via_snoc:Via L (K++[k]) i j↔Via L K i j∨(Via L K i k∧Via L K k j):=by
 have up:∀ {i j},Via L K i j→Via L (K++[k]) i j:=fun h=>h.mono fun x hx=>List.mem_append_left _ hx;constructor;rotate_left
 ·
  rintro(h|⟨h1,h2⟩)
  · exact up h
  exact .join (up h1) (List.mem_append_right _ (List.mem_singleton.2 rfl)) (up h2)
 intro h;induction h with
 | step h=>exact .inl (.step h)
 | join _ hm _ h1 h2 =>
  rcases List.mem_append.1 hm with hm|hm
  ·
   rcases h1 with a|⟨a,a'⟩ <;> rcases h2 with b|⟨b,b'⟩
   · exact .inl (.join a hm b)
   · exact .inr ⟨.join a hm b,b'⟩
   · exact .inr ⟨a,.join a' hm b⟩
   exact .inr ⟨a,b'⟩
  rw [List.mem_singleton.1 hm] at h1 h2;have a:Via L K _ k:=h1.elim id And.left;have b:Via L K k _:=h2.elim id And.right;exact .inr ⟨a,b⟩
theorem via_self:Via L (K++[k]) k j↔Via L K k j:=
 via_snoc.trans ⟨fun h=>h.elim id And.right,.inl⟩
theorem via_all(hK:∀ s∈L,s.1∈K):Via L K i j↔Lead L i j:=by
 refine⟨Via.lead,fun h => ?_⟩;induction h with
 | step h=>exact .step h
 | more _ h2 ih=>exact .join ih (hK _ h2) (.step h2)
def AlikeP(L:List (Nat × Nat))(i j:Nat):Prop:=i=j∨(Lead L i j∧Lead L j i)
def BeforeP(L:List (Nat × Nat))(i j:Nat):Prop:=Lead L i j∧¬ Lead L j i
theorem AlikeP.symm(h:AlikeP L i j):AlikeP L j i:=by
 rcases h with rfl|⟨a,b⟩
 · exact .inl rfl
 exact .inr ⟨b,a⟩
theorem AlikeP.trans(h:AlikeP L i j)(h':AlikeP L j k):AlikeP L i k:=by
 rcases h with rfl|⟨a,b⟩
 · exact h'
 rcases h' with rfl|⟨c,d⟩
 · exact .inr ⟨a,b⟩
 exact .inr ⟨a.trans c,d.trans b⟩
theorem BeforeP.trans(h:BeforeP L i j)(h':BeforeP L j k):BeforeP L i k:=
 ⟨h.1.trans h'.1,fun q=>h.2 (h'.1.trans q)⟩
theorem BeforeP.irrefl(h:BeforeP L i i):False:=h.2 h.1
theorem BeforeP.left(h:BeforeP L i j)(ha:AlikeP L i k):BeforeP L k j:=by
 rcases ha with rfl|⟨a,b⟩
 · exact h
 exact⟨b.trans h.1,fun q=>h.2 (q.trans b)⟩
theorem BeforeP.right(h:BeforeP L i j)(ha:AlikeP L j k):BeforeP L i k:=by
 rcases ha with rfl|⟨a,b⟩
 · exact h
 exact⟨h.1.trans a,fun q=>h.2 (a.trans q)⟩
structure IsGroup (L:List (Nat × Nat)) (i g:Nat):Prop where
 alike:AlikeP L i g
 least:∀ j,AlikeP L i j→g≤j
theorem isGroup_one{h:Nat}(a:IsGroup L i g)(b:IsGroup L i h):g=h:=Nat.le_antisymm (a.least _ b.alike) (b.least _ a.alike)
theorem isGroup_ex(L:List (Nat × Nat))(i:Nat):∃ g,IsGroup L i g:=by
 have:∀ m,(∃ g,g≤m∧AlikeP L i g)→∃ g,IsGroup L i g:=by
  intro m;induction m with
  | zero =>rintro⟨g,hg,ha⟩;obtain rfl:g=0:=(by omega);exact⟨0,ha,fun _ _=>Nat.zero_le _⟩
  | succ m ih =>
   rintro⟨g,hg,ha⟩;rcases Classical.em (∃ g',g'≤m∧AlikeP L i g') with h|h
   · exact ih h
   refine⟨g,ha,fun j hj => ?_⟩;rcases Nat.lt_or_ge j g with hlt|hge
   · exact absurd ⟨j,by omega,hj⟩ h
   exact hge
 exact this i ⟨i,Nat.le_refl _,.inl rfl⟩
open Classical in
noncomputable def groupM(L:List (Nat × Nat))(i:Nat):Nat:=Classical.choose (isGroup_ex L i)
theorem groupM_is(L:List (Nat × Nat))(i:Nat):IsGroup L i (groupM L i):=Classical.choose_spec (isGroup_ex L i)
theorem groupM_eq(h:IsGroup L i g):groupM L i=g:=isGroup_one (groupM_is L i) h
theorem groupM_le(L:List (Nat × Nat))(i:Nat):groupM L i≤i:=(groupM_is L i).least i (.inl rfl)
theorem groupM_alike:groupM L i=groupM L j↔AlikeP L i j:=by
 constructor
 · intro h;have h2:=(groupM_is L j).alike;rw [← h] at h2;exact(groupM_is L i).alike.trans h2.symm
 intro h;exact groupM_eq ⟨h.trans (groupM_is L j).alike,fun k hk=>(groupM_is L j).least k (h.symm.trans hk)⟩
theorem groupM_idem(L:List (Nat × Nat))(i:Nat):groupM L (groupM L i)=groupM L i:=groupM_alike.2 (groupM_is L i).alike.symm
def MayTake(L:List (Nat × Nat))(n:Nat)(out:List Nat)(g:Nat):Prop:=g<n∧groupM L g=g∧g ∉ out∧∀ j,j<n→BeforeP L j g→j∈out
open Classical in
noncomputable def pickM(L:List (Nat × Nat))(n:Nat)(out:List Nat):Option Nat:=(List.range n).find? fun g=>decide (MayTake L n out g)
open Classical in
noncomputable def takeG(L:List (Nat × Nat))(n g:Nat):List Nat:=(List.range n).filter fun i=>decide (groupM L i=g)
noncomputable def stepO(L:List (Nat × Nat))(n:Nat)(out:List Nat):List Nat:=match pickM L n out with
 | some g=>out++takeG L n g
 | none=>out
structure Whole (L:List (Nat × Nat)) (n:Nat) (out:List Nat):Prop where
 lt:∀ i∈out,i<n
 nodup:out.Nodup
 groups:∀ i j,i∈out→j<n→AlikeP L i j→j∈out
theorem whole_nil(L:List (Nat × Nat))(n:Nat):Whole L n []:=⟨fun i h=>absurd h (List.not_mem_nil),List.nodup_nil,fun i j h=>absurd h (List.not_mem_nil)⟩
theorem mem_takeG:i∈takeG L n g↔i<n∧groupM L i=g:=by unfold takeG;simp [List.mem_filter,List.mem_range]
theorem pick_some(h:pickM L n out=some g):MayTake L n out g:=by unfold pickM at h;have:=List.find?_some h;simpa using this
theorem whole_step(h:Whole L n out):Whole L n (stepO L n out):=by
 unfold stepO;cases hp:pickM L n out with
 | none=>exact h
 | some g =>
  obtain⟨g1,g2,g3,g4⟩:=pick_some hp;refine⟨fun i hi => ?_,?_,fun i j hi hj ha => ?_⟩
  ·
   rcases List.mem_append.1 hi with hi|hi
   · exact h.lt i hi
   · exact(mem_takeG.1 hi).1
  · refine List.nodup_append.2 ⟨h.nodup,List.Pairwise.filter _ List.nodup_range,fun a ha b hb hab => ?_⟩;subst hab;have h2:=(mem_takeG.1 hb).2;have h3:AlikeP L a g:=(by rw [← h2];exact(groupM_is L a).alike);exact g3 (h.groups a g ha g1 h3)
  ·
   rcases List.mem_append.1 hi with hi|hi
   · exact List.mem_append_left _ (h.groups i j hi hj ha)
   · exact List.mem_append_right _ (mem_takeG.2 ⟨hj,by rw [← (mem_takeG.1 hi).2];exact(groupM_alike.2 ha).symm⟩)
theorem nodup_lenN:∀ {l m:List Nat},l.Nodup→(∀ x∈l,x∈m)→l.length≤m.length
 | [],m,_,_=>Nat.zero_le _
 | x :: l,m,h,hs=>by obtain⟨h1,h2⟩:=List.nodup_cons.1 h;have hx:=hs x (List.mem_cons_self ..);have:=nodup_lenN (m:=m.erase x) h2 fun y hy=>(List.mem_erase_of_ne (fun e=>h1 (by rw [← e];exact hy))).2 (hs y (List.mem_cons_of_mem _ hy));rw [List.length_erase_of_mem hx] at this;have h3:=List.length_pos_of_mem hx;rw [List.length_cons];omega
open Classical in
noncomputable def leftM(L:List (Nat × Nat))(n:Nat)(out:List Nat)(i:Nat):List Nat:=(List.range n).filter fun j=>decide (BeforeP L j i∧j ∉ out)
theorem mem_leftM:j∈leftM L n out i↔j<n∧BeforeP L j i∧j ∉ out:=by unfold leftM;simp only [List.mem_filter,List.mem_range,decide_eq_true_iff]
theorem pick_ex(h:Whole L n out)(hlt:∃ i,i<n∧i ∉ out):∃ g,MayTake L n out g:=by
 have key:∀ m,∀ i,i<n→i ∉ out→(leftM L n out i).length≤m→∃ g,MayTake L n out g:=by
  intro m;induction m with
  | zero =>intro i hi hno hm;refine⟨groupM L i,Nat.lt_of_le_of_lt (groupM_le L i) hi,groupM_idem L i,fun q=>hno (h.groups _ i q hi (groupM_is L i).alike.symm),fun j hj hb=>Classical.byContradiction fun hjo => ?_⟩;have h0:=List.eq_nil_of_length_eq_zero (Nat.le_zero.1 hm);have:j∈leftM L n out i:=mem_leftM.2 ⟨hj,hb.right (groupM_is L i).alike.symm,hjo⟩;rw [h0] at this;exact absurd this (List.not_mem_nil)
  | succ m ih =>
   intro i hi hno hm;rcases Classical.em (∃ j,j<n∧BeforeP L j i∧j ∉ out) with⟨j,hj,hb,hjo⟩|hnone
   ·
    refine ih j hj hjo ?_;have hnd:(j :: leftM L n out j).Nodup:=List.nodup_cons.2 ⟨fun q=>(mem_leftM.1 q).2.1.irrefl,List.Pairwise.filter _ List.nodup_range⟩;have:=nodup_lenN (m:=leftM L n out i) hnd fun x hx=>by
     rcases List.mem_cons.1 hx with rfl|hx
     · exact mem_leftM.2 ⟨hj,hb,hjo⟩
     obtain⟨h1,h2,h3⟩:=mem_leftM.1 hx;exact mem_leftM.2 ⟨h1,h2.trans hb,h3⟩
    rw [List.length_cons] at this;omega
   exact⟨groupM L i,Nat.lt_of_le_of_lt (groupM_le L i) hi,groupM_idem L i,fun q=>hno (h.groups _ i q hi (groupM_is L i).alike.symm),fun j hj hb=>Classical.byContradiction fun hjo =>hnone ⟨j,hj,hb.right (groupM_is L i).alike.symm,hjo⟩⟩
 obtain⟨i,hi,hno⟩:=hlt;exact key _ i hi hno (Nat.le_refl _)
theorem step_grows(h:Whole L n out)(hl:out.length<n):∃ g,pickM L n out=some g∧g∈takeG L n g∧out.length<(stepO L n out).length:=by
 have hex:∃ i,i<n∧i ∉ out:=Classical.byContradiction fun hno=>by have:∀ x∈List.range n,x∈out:=fun x hx=>Classical.byContradiction fun q=>hno ⟨x,List.mem_range.1 hx,q⟩;have:=nodup_lenN List.nodup_range this;rw [List.length_range] at this;omega
 obtain⟨g,hg⟩:=pick_ex h hex;cases hp:pickM L n out with
 | none =>unfold pickM at hp;have:=(List.find?_eq_none.1 hp) g (List.mem_range.2 hg.1);simp only [decide_eq_true_iff] at this;exact absurd hg this
 | some g' =>obtain⟨g1,g2,g3,g4⟩:=pick_some hp;have hm:g'∈takeG L n g':=mem_takeG.2 ⟨g1,g2⟩;refine⟨g',rfl,hm,?_⟩;unfold stepO;rw [hp,List.length_append];have:=List.length_pos_of_mem hm;omega
noncomputable def orderTo(L:List (Nat × Nat))(n:Nat):Nat→List Nat
 | 0=>[]
 | k+1=>stepO L n (orderTo L n k)
noncomputable def orderM(L:List (Nat × Nat))(n:Nat):List Nat:=orderTo L n n
theorem orderTo_whole(L:List (Nat × Nat))(n:Nat):∀ k,Whole L n (orderTo L n k)
 | 0=>whole_nil L n
 | k+1=>whole_step (orderTo_whole L n k)
theorem whole_len(h:Whole L n out):out.length≤n:=by
 have:=nodup_lenN (m:=List.range n) h.nodup fun x hx=>List.mem_range.2 (h.lt x hx)
 rwa [List.length_range] at this
theorem step_full(h:Whole L n out)(hl:out.length=n):stepO L n out=out:=by
 have hall:∀ i,i<n→i∈out:=fun i hi=>Classical.byContradiction fun q=>by
  have:=nodup_lenN (m:=List.range n) (l:=i :: out) (List.nodup_cons.2 ⟨q,h.nodup⟩) fun x hx=>by
   rcases List.mem_cons.1 hx with rfl|hx
   · exact List.mem_range.2 hi
   exact List.mem_range.2 (h.lt x hx)
  rw [List.length_cons,List.length_range] at this;omega
 unfold stepO;cases hp:pickM L n out with
 | none=>rfl
 | some g =>obtain⟨g1,_,g3,_⟩:=pick_some hp;exact absurd (hall g g1) g3
theorem orderTo_len(L:List (Nat × Nat))(n:Nat):∀ k,min k n≤(orderTo L n k).length
 | 0=>by simp [orderTo]
 | k+1=>by
  have ih:=orderTo_len L n k;have hw:=orderTo_whole L n k;show min (k+1) n≤(stepO L n (orderTo L n k)).length;rcases Nat.lt_or_ge (orderTo L n k).length n with hlt|hge
  · obtain⟨g,_,_,h3⟩:=step_grows hw hlt;omega
  have:=whole_len hw;rw [step_full hw (by omega)];omega
theorem order_done(L:List (Nat × Nat))(n:Nat)(h:(orderTo L n k).length=n):orderTo L n k=orderM L n:=by
 have hs:∀ d,orderTo L n (k+d)=orderTo L n k:=by
  intro d;induction d with
  | zero=>rfl
  | succ d ih=>show stepO L n (orderTo L n (k+d))=_;rw [ih,step_full (orderTo_whole L n k) h]
 rcases Nat.le_total k n with hk|hk
 · have:=hs (n - k);rw [show k+(n - k)=n by omega] at this;exact this.symm
 have hn:(orderTo L n n).length=n:=by have h1:=orderTo_len L n n;have h2:=whole_len (orderTo_whole L n n);omega
 have hs2:∀ d,orderTo L n (n+d)=orderTo L n n:=by
  intro d;induction d with
  | zero=>rfl
  | succ d ih=>show stepO L n (orderTo L n (n+d))=_;rw [ih,step_full (orderTo_whole L n n) hn]
 have:=hs2 (k - n);rw [show n+(k - n)=k by omega] at this;exact this
theorem take_one{α:Type}{l:List α}{x:α}(h:l[k]? = some x):l.take (k+1)=l.take k++[x]:=by rw [List.take_add_one,h];rfl
theorem nodup_snocN(h:out.Nodup)(hj:j ∉ out):(out++[j]).Nodup:=
 List.nodup_append.2 ⟨h,List.nodup_cons.2 ⟨List.not_mem_nil,List.nodup_nil⟩,fun a ha b hb e=>hj (by rw [List.mem_singleton.1 hb] at e;rw [← e];exact ha)⟩
def UpL(L:List (Nat × Nat)):Prop:=∀ s∈L,s.1<s.2
theorem up_lead(h:UpL L)(hl:Lead L i j):i<j:=by
 induction hl with
 | step h2=>exact h _ h2
 | more _ h2 ih=>exact Nat.lt_trans ih (h _ h2)
theorem up_alike(h:UpL L):AlikeP L i j↔i=j:=by
 refine⟨fun ha => ?_,.inl⟩;rcases ha with e|⟨h1,h2⟩
 · exact e
 have:=up_lead h h1;have:=up_lead h h2;omega
theorem up_group(h:UpL L)(i:Nat):groupM L i=i:=((up_alike h).1 (groupM_is L i).alike).symm
theorem up_take(h:UpL L)(hg:g<n):takeG L n g=[g]:=by
 have hn:(takeG L n g).Nodup:=List.Pairwise.filter _ List.nodup_range;have hm:∀ i,i∈takeG L n g↔i=g:=fun i=>by rw [mem_takeG,up_group h];exact⟨And.right,fun e=>⟨by rw [e];exact hg,e⟩⟩
 match ht:takeG L n g with
 | []=>have:=(hm g).2 rfl;rw [ht] at this;exact absurd this (List.not_mem_nil)
 | [x]=>have:=(hm x).1 (by rw [ht];exact List.mem_singleton.2 rfl);rw [this]
 | x :: y :: r =>have h1:=(hm x).1 (by rw [ht];exact List.mem_cons_self ..);have h2:=(hm y).1 (by rw [ht];exact List.mem_cons_of_mem _ (List.mem_cons_self ..));rw [ht,h1,h2] at hn;exact absurd (List.mem_cons_self ..) (List.nodup_cons.1 hn).1
theorem up_order(h:UpL L)(n:Nat):orderM L n=List.range n:=by
 have key:∀ k,k≤n→orderTo L n k=List.range k:=by
  intro k;induction k with
  | zero=>intro _;rfl
  | succ k ih =>
   intro hk;show stepO L n (orderTo L n k)=_;rw [ih (by omega)];have hmay:MayTake L n (List.range k) k:=⟨by omega,up_group h k,by simp,fun j _ hb=>List.mem_range.2 (up_lead h hb.1)⟩;have hp:pickM L n (List.range k)=some k:=by
    cases hp:pickM L n (List.range k) with
    | none =>unfold pickM at hp;have:=(List.find?_eq_none.1 hp) k (List.mem_range.2 (by omega));simp only [decide_eq_true_iff] at this;exact absurd hmay this
    | some g =>
     obtain⟨g1,g2,g3,g4⟩:=pick_some hp;have hge:k≤g:=Nat.le_of_not_lt fun q=>g3 (List.mem_range.2 q);rcases Nat.eq_or_lt_of_le hge with e|hlt
     · rw [e]
     unfold pickM at hp;obtain⟨l1,l2,hab,hno⟩:=(List.find?_eq_some_iff_append.1 hp).2;have hk2:k∈l1:=by
      have hmem:k∈List.range n:=List.mem_range.2 (by omega);have hpw:(List.range n).Pairwise (· < ·):=List.pairwise_lt_range;rw [hab] at hmem hpw;rcases List.mem_append.1 hmem with hm|hm
      · exact hm
      rcases List.mem_cons.1 hm with e|hm
      · omega
      have:=(List.pairwise_cons.1 (List.pairwise_append.1 hpw).2.1).1 k hm;omega
     have:=hno k hk2;simp only [Bool.not_eq_true',decide_eq_false_iff_not] at this;exact absurd hmay this
   unfold stepO;rw [hp];show List.range k++takeG L n k=_;rw [up_take h (show k<n by omega),List.range_succ]
 exact key n (Nat.le_refl _)
end Go.Proofs.YtjccmcgglfncdaaGreatDoor
namespace Go.Proofs.YtjccmcgglfncdaaGreatDoor
open Go
variable{L:List (Nat × Nat)}{a b i j n x y:Nat}
theorem order_earlier:∀ k,∀ x y,y∈orderTo L n k→x<n→BeforeP L x y→x∈orderTo L n k∧(orderTo L n k).idxOf x<(orderTo L n k).idxOf y
 | 0,x,y,h,_,_=>absurd h List.not_mem_nil
 | k+1,x,y,h,hx,hb=>by
  have ih:∀ x y,y∈orderTo L n k→x<n→BeforeP L x y→x∈orderTo L n k∧(orderTo L n k).idxOf x<(orderTo L n k).idxOf y:=order_earlier k;have hw:=orderTo_whole L n k;have hs:orderTo L n (k+1)=stepO L n (orderTo L n k):=rfl;rw [hs] at h ⊢;unfold stepO at h ⊢;cases hp:pickM L n (orderTo L n k) with
  | none =>rw [hp] at h;exact ih x y h hx hb
  | some g =>
   rw [hp] at h;obtain⟨g1,g2,g3,g4⟩:=pick_some hp
   by_cases hy:y∈orderTo L n k
   · obtain⟨h1,h2⟩:=ih x y hy hx hb;exact⟨List.mem_append_left _ h1,by show(orderTo L n k++takeG L n g).idxOf x<(orderTo L n k++takeG L n g).idxOf y;rw [List.idxOf_append,List.idxOf_append,if_pos h1,if_pos hy];exact h2⟩
   have hyt:y∈takeG L n g:=(List.mem_append.1 h).resolve_left hy;have hyg:=(mem_takeG.1 hyt).2;have ha:AlikeP L y g:=(by rw [← hyg];exact(groupM_is L y).alike);have hxo:=g4 x hx (hb.right ha);refine⟨List.mem_append_left _ hxo,?_⟩;show(orderTo L n k++takeG L n g).idxOf x<(orderTo L n k++takeG L n g).idxOf y;rw [List.idxOf_append,List.idxOf_append,if_pos hxo,if_neg hy];have:=List.idxOf_lt_length_of_mem hxo;omega
theorem order_mem(L:List (Nat × Nat))(n:Nat)(hx:x<n):x∈orderM L n:=by
 have hw:=orderTo_whole L n n;have hl:(orderTo L n n).length=n:=by have h1:=orderTo_len L n n;have h2:=whole_len hw;omega
 refine Classical.byContradiction fun q => ?_;have:=nodup_lenN (m:=List.range n) (l:=x :: orderTo L n n) (List.nodup_cons.2 ⟨q,hw.nodup⟩) fun y hy=>by
  rcases List.mem_cons.1 hy with rfl|hy
  · exact List.mem_range.2 hx
  exact List.mem_range.2 (hw.lt y hy)
 rw [List.length_cons,List.length_range] at this;omega
theorem order_bef(hx:x<n)(hy:y<n)(hb:BeforeP L x y):(orderM L n).idxOf x<(orderM L n).idxOf y:=(order_earlier n x y (order_mem L n hy) hx hb).2
theorem order_nodup(L:List (Nat × Nat))(n:Nat):(orderM L n).Nodup:=(orderTo_whole L n n).nodup
theorem order_in(h:x∈orderM L n):x<n:=(orderTo_whole L n n).lt x h
noncomputable def posM(L:List (Nat × Nat))(n x:Nat):Nat:=(orderM L n).idxOf (groupM L x)
theorem group_lt(hx:x<n):groupM L x<n:=Nat.lt_of_le_of_lt (groupM_le L x) hx
theorem idx_inj{l:List Nat}(hx:x∈l)(h:l.idxOf x=l.idxOf y):x=y:=by
 have h1:=List.idxOf_lt_length_of_mem hx;have h2:l.idxOf y<l.length:=by rw [← h];exact h1
 have e1:l[l.idxOf x]=x:=List.getElem_idxOf h1;have e2:l[l.idxOf y]=y:=List.getElem_idxOf h2;rw [← e1,← e2];congr 1
theorem pos_alike(hx:x<n)(h:posM L n x=posM L n y):AlikeP L x y:=groupM_alike.1 (idx_inj (order_mem L n (group_lt hx)) h)
theorem pos_le(hx:x<n)(hy:y<n)(h:Lead L x y):posM L n x≤posM L n y:=by
 by_cases hb:Lead L y x
 · have:groupM L x=groupM L y:=groupM_alike.2 (.inr ⟨h,hb⟩);unfold posM;rw [this];exact Nat.le_refl _
 have h1:BeforeP L x y:=⟨h,hb⟩;exact Nat.le_of_lt (order_bef (group_lt hx) (group_lt hy) ((h1.left (groupM_is L x).alike).right (groupM_is L y).alike))
theorem lead_mono{L':List (Nat × Nat)}(h:∀ s∈L,s∈L')(hl:Lead L i j):Lead L' i j:=by
 induction hl with
 | step h1=>exact .step (h _ h1)
 | more _ h2 ih=>exact .more ih (h _ h2)
structure Chn (R:List (Nat × Nat)) (n:Nat) (at':List Nat) (R':List (Nat × Nat)):Prop where
 old:∀ s∈R,s.1<n∧s.2<n
 sub:∀ s∈R',s∈R∨∃ j,at'[j]? = some s.1∧at'[j+1]? = some s.2
 sup:∀ s∈R,s∈R'
 ties:∀(j a b:Nat),at'[j]? = some a→at'[j+1]? = some b→(a,b)∈R'∨Lead R a b
 rise:∀(i j a b:Nat),at'[i]? = some a→at'[j]? = some b→a<n→b<n→i<j→posM R n a<posM R n b
 firm:∀ a∈at',a<n→∀ y:Nat,y<n→y≠a→¬ AlikeP R a y
 nodup:at'.Nodup
section
variable {R : List (Nat × Nat)} {n : Nat} {at' : List Nat} {R' : List (Nat × Nat)}
theorem nodup_at{l:List Nat}(h:l.Nodup)(hi:l[i]? = some a)(hj:l[j]? = some a):i=j:=
 (List.getElem?_inj (List.getElem?_eq_some_iff.1 hi).1 h).1 (hi.trans hj.symm)
theorem Chn.idx(h:Chn R n at' R')(hi:at'[i]? = some a)(hj:at'[j]? = some b)(ha:a<n)(hb:b<n)(hp:posM R n a≤posM R n b):i≤j:=by
 rcases Nat.lt_or_ge j i with q|q
 · have:=h.rise j i b a hj hi hb ha q;omega
 exact q
def OnW(R:List (Nat × Nat))(n:Nat)(at':List Nat)(j x:Nat):Prop:=(∃ m,j≤m∧at'[m]? = some x)∨(x<n∧∃ m a,j≤m∧at'[m]? = some a∧a<n∧posM R n a≤posM R n x)
theorem Chn.on(h:Chn R n at' R')(hx:OnW R n at' j x)(hs:(x,y)∈R'):OnW R n at' j y:=by
 rcases h.sub _ hs with h1|⟨m,h1,h2⟩
 ·
  obtain⟨hxn,hyn⟩:=h.old _ h1;have hxn:x<n:=hxn;have hyn:y<n:=hyn;have hp:=pos_le hxn hyn (.step h1);rcases hx with⟨m,hm,hx⟩|⟨_,m,a,hm,ha,han,hpa⟩
  · exact .inr ⟨hyn,m,x,hm,hx,hxn,hp⟩
  exact .inr ⟨hyn,m,a,hm,ha,han,by omega⟩
 have h1:at'[m]? = some x:=h1;have h2:at'[m+1]? = some y:=h2;refine .inl ⟨m+1,?_,h2⟩;rcases hx with⟨m2,hm,hx⟩|⟨hxn,m2,a,hm,ha,han,hpa⟩
 · have:=nodup_at h.nodup h1 hx;omega
 have:=h.idx ha h1 han hxn hpa;omega
theorem Chn.on_lead(h:Chn R n at' R')(hx:OnW R n at' j x)(hl:Lead R' x y):OnW R n at' j y:=by
 induction hl with
 | step h1=>exact h.on hx h1
 | more _ h2 ih=>exact h.on ih h2
theorem Chn.no_back(h:Chn R n at' R')(hi:at'[i]? = some a)(hj:at'[j]? = some b)(hij:i<j):¬ Lead R' b a:=by
 intro hl;rcases h.on_lead (.inl ⟨j,Nat.le_refl _,hj⟩) hl with⟨m,hm,hx⟩|⟨han,m,c,hm,hc,hcn,hp⟩
 · have:=nodup_at h.nodup hi hx;omega
 have:=h.idx hc hi hcn han hp;omega
theorem Chn.ahead(h:Chn R n at' R'):∀(d i a b:Nat),at'[i]? = some a→at'[i+d+1]? = some b→Lead R' a b
 | 0,i,a,b,hi,hj=>by
  rcases h.ties i a b hi hj with h1|h1
  · exact .step h1
  exact lead_mono h.sup h1
 | d+1,i,a,b,hi,hj=>by
  have hlt:=(List.getElem?_eq_some_iff.1 hj).1;have hc:at'[i+d+1]? = some at'[i+d+1]:=List.getElem?_eq_getElem (by omega);have h1:=h.ahead d i a _ hi hc;refine h1.trans ?_;rcases h.ties (i+d+1) _ b hc hj with h2|h2
  · exact .step h2
  exact lead_mono h.sup h2
theorem Chn.before(h:Chn R n at' R')(hi:at'[i]? = some a)(hj:at'[j]? = some b)(hij:i<j):BeforeP R' a b:=by obtain⟨d,rfl⟩:∃ d,j=i+d+1:=⟨j - i - 1,by omega⟩;exact⟨h.ahead d i a b hi hj,h.no_back hi hj hij⟩
theorem Chn.alone(h:Chn R n at' R')(hi:at'[i]? = some a)(hy:y<n∨y∈at')(hne:y≠a):¬ AlikeP R' a y:=by
 intro hal
 rcases hal with e|⟨h1,h2⟩
 · exact hne e.symm
 by_cases hya:y∈at'
 ·
  obtain⟨j,hj⟩:=List.getElem?_of_mem hya
  rcases Nat.lt_trichotomy i j with q|q|q
  · exact h.no_back hi hj q h2
  · subst q;rw [hi] at hj;exact hne (Option.some.inj hj).symm
  exact h.no_back hj hi q h1
 have hyn:y<n:=hy.resolve_right hya
 -- y lies behind an old one of the chain, at i or later
 rcases h.on_lead (.inl ⟨i,Nat.le_refl _,hi⟩) h1 with⟨m,_,hx⟩|⟨_,m,c,hm,hc,hcn,hp⟩
 · exact hya (List.mem_of_getElem? hx)
 -- all that y leads to lies behind y, or behind an old one of the chain that does
 have key:∀ z,Lead R' y z→(z<n∧posM R n y≤posM R n z)∨∃(m1 m2 d:Nat),at'[m2]? = some z∧m1≤m2∧at'[m1]? = some d∧d<n∧posM R n y≤posM R n d:=by
  intro z hz;induction hz with
  | @step z h3 =>
   rcases h.sub _ h3 with h4|⟨m3,h4,_⟩
   · have h5:=h.old _ h4;exact .inl ⟨h5.2,pos_le h5.1 h5.2 (.step h4)⟩
   exact absurd (List.mem_of_getElem? h4) hya
  | @more k z _ h3 ih =>
   rcases h.sub _ h3 with h4|⟨m3,h4,h5⟩
   ·
    have h6:=h.old _ h4;have hkn:k<n:=h6.1;have hzn:z<n:=h6.2;have hkz:=pos_le hkn hzn (.step h4);rcases ih with⟨_,h7⟩|⟨m1,m2,d,h7,h8,h9,h10,h11⟩
    · exact .inl ⟨hzn,by omega⟩
    refine .inl ⟨hzn,?_⟩;rcases Nat.eq_or_lt_of_le h8 with e|q
    · subst e;rw [h7] at h9;cases h9;omega
    have:=h.rise m1 m2 d k h9 h7 h10 hkn q;omega
   have h4:at'[m3]? = some k:=h4;have h5:at'[m3+1]? = some z:=h5;rcases ih with⟨hkn,h7⟩|⟨m1,m2,d,h7,h8,h9,h10,h11⟩
   · exact .inr ⟨m3,m3+1,k,h5,by omega,h4,hkn,h7⟩
   have:=nodup_at h.nodup h4 h7;exact .inr ⟨m1,m3+1,d,h5,by omega,h9,h10,h11⟩
 rcases key a h2 with⟨han,h3⟩|⟨m1,m2,d,h3,h4,h5,h6,h7⟩
 ·
  have hic:i≤m:=hm
  have h4:posM R n a≤posM R n c:=by
   rcases Nat.eq_or_lt_of_le hm with e|q
   · subst e;rw [hi] at hc;cases hc;exact Nat.le_refl _
   exact Nat.le_of_lt (h.rise i m a c hi hc han hcn q)
  have h5:posM R n a=posM R n y:=by omega
  exact h.firm a (List.mem_of_getElem? hi) han y hyn hne (pos_alike han h5)
 have e:=nodup_at h.nodup h3 hi
 subst e
 have h8:posM R n d≤posM R n c:=by
  rcases Nat.eq_or_lt_of_le (Nat.le_trans h4 hm) with e|q
  · subst e;rw [h5] at hc;cases hc;exact Nat.le_refl _
  exact Nat.le_of_lt (h.rise m1 m d c h5 hc h6 hcn q)
 have h9:posM R n d=posM R n y:=by omega
 exact h.firm d (List.mem_of_getElem? h5) h6 y hyn (fun e=>hya (e▸List.mem_of_getElem? h5)) (pos_alike h6 h9)
end
end Go.Proofs.YtjccmcgglfncdaaGreatDoor
namespace Go.Proofs.YtjccmcgglfncdaaGreatDoor
open Go Go.RowKit
variable{L:List PatchM}{i:Nat}{o:OpM}{p:PatchM}{id:PidM}{v:VidM}
structure WfG (L:List PatchM):Prop where
 good:∀ p∈L,goodP p=true
 vec:∀ a,vecM L a≤60000
 none:∀ a,authorOk a=false→vecM L a=0
 has:∀ q:PidM,hasM L q=true↔authorOk q.author=true∧1≤q.seq.toNat∧q.seq.toNat≤vecM L q.author
 refs:∀ q∈L,∀ o∈q.ops,∀ v∈refsM o,hasM L v.pid=true
 kinds:∀ q∈L,∀ o∈q.ops,refMet L o=true
theorem hasM_snoc(L:List PatchM)(p:PatchM)(q:PidM):hasM (L++[p]) q=(hasM L q || decide (p.id=q)):=by unfold hasM;simp
theorem vecM_snoc(L:List PatchM)(p:PatchM)(a:UInt8):vecM (L++[p]) a=vecM L a+(if p.id.author=a then 1 else 0):=by
 unfold vecM;rw [List.filter_append,List.length_append]
 by_cases h:p.id.author=a <;> simp [h]
structure CheckOk (L:List PatchM) (p:PatchM):Prop where
 good:goodP p=true
 new:hasM L p.id=false
 next:nextM L p.id.author=p.id
 deps:∀ d∈p.deps,hasM L d=true
 refs:∀ o∈p.ops,refMet (L++[p]) o=true
theorem check_ok(h:checkM L p=0):CheckOk L p:=by
 unfold checkM at h;split at h
 · simp at h
 rename_i h1;split at h
 · simp at h
 rename_i h2;split at h
 · simp at h
 rename_i h3;split at h
 · simp at h
 rename_i h4;split at h
 · simp at h
 rename_i h5;simp only [Bool.not_eq_false] at h1 h2 h3 h4 h5;refine⟨h1,by simpa using h2,Decidable.of_not_not h3,fun d hd=>List.all_eq_true.1 h4 d hd,fun o ho=>List.all_eq_true.1 h5 o ho⟩
theorem goodP_id(h:goodP p=true):goodPid p.id=true:=by unfold goodP at h;simp at h;exact h.1
theorem goodP_len(h:goodP p=true):1≤p.ops.length∧p.ops.length≤200:=by unfold goodP at h;simp at h;exact⟨h.2.1,h.2.2.1⟩
theorem goodP_deps(h:goodP p=true):p.deps=depsM p.id p.ops:=by unfold goodP at h;simp at h;exact h.2.2.2.1
theorem goodP_one(h:goodP p=true)(ho:p.ops[i]? = some o):oneB p i o=true:=by unfold goodP at h;simp only [Bool.and_eq_true] at h;have:=List.all_eq_true.1 h.2.2.2.2 i (List.mem_range.2 (List.getElem?_eq_some_iff.1 ho).1);rw [ho] at this;exact this
theorem oneB_parts(h:oneB p i o=true):opGood p.id i o=true∧laterB p.id o=false∧¬ (4≤o.kind.toNat∧o∈p.ops.take i)∧kindsB p o=true:=by unfold oneB at h;simp only [Bool.and_eq_true,Bool.not_eq_true'] at h;refine⟨h.1,h.2.1,?_,h.2.2.2⟩;have:=h.2.2.1;rintro⟨h1,h2⟩;simp [h1,h2] at this
theorem opGood_refs(h:opGood id i o=true)(hv:v∈refsM o):goodVid v=true∧(v.pid=id→v.n.toNat<i):=by unfold opGood at h;simp only [Bool.and_eq_true] at h;have:=List.all_eq_true.1 h.1 v hv;unfold refOk at this;simp at this;exact⟨this.1,fun e=>(this.2).resolve_left (fun h=>h e)⟩
theorem opGood_tail(h:opGood id i o=true):opTail id o=true:=by unfold opGood at h;simp only [Bool.and_eq_true] at h;exact h.2
theorem opTail_kind(h:opTail id o=true):o.kind=1∨o.kind=2∨o.kind=3∨o.kind=4∨(o.kind=5∧o.at'.pid≠id):=by
 unfold opTail at h;split at h
 · left;assumption
 split at h
 · right;left;assumption
 split at h
 · right;right;left;assumption
 split at h
 · right;right;right;left;assumption
 split at h
 · rename_i h5;simp at h;exact .inr (.inr (.inr (.inr ⟨h5,h.1⟩)))
 cases h
theorem refs_at_mem(h:o.kind=2∨o.kind=3∨o.kind=4∨o.kind=5):o.at'∈refsM o:=by unfold refsM;rcases h with h|h|h|h <;> simp [h]
theorem refs_to_mem(h:o.kind=4):o.to∈refsM o:=by unfold refsM;simp [h]
theorem packPid_hi(a b:PidM)(h:packPid a=packPid b):a=b:=packPid_inj h
theorem mem_deps{ops:List OpM}(ho:o∈ops)(hv:v∈refsM o)(hn:v.pid≠id):v.pid∈depsM id ops:=by unfold depsM;rw [mem_setS packPid_hi];unfold depsOf;refine List.mem_append.2 (.inr (List.mem_flatMap.2 ⟨o,ho,List.mem_map.2 ⟨v,List.mem_filter.2 ⟨hv,by simpa using hn⟩,rfl⟩⟩))
theorem next_parts{p:PidM}(hg:goodPid p=true)(h:nextM L p.author=p):authorOk p.author=true∧vecM L p.author<60000∧p.seq.toNat=vecM L p.author+1:=by
 unfold nextM at h;split at h
 ·
  rename_i hc;refine⟨hc.1,hc.2,?_⟩;have:p.seq=UInt16.ofNat (vecM L p.author+1):=by have:=congrArg PidM.seq h;exact this.symm
  rw [this];simp;omega
 rw [← h] at hg;exact absurd hg (by decide)
theorem vertOp_snoc(L:List PatchM)(p:PatchM)(v:VidM):vertOp (L++[p]) v=(vertOp L v).or (madeBy p v):=by unfold vertOp;rw [List.findSome?_append];simp [List.findSome?];cases madeBy p v <;> rfl
theorem madeBy_far(h:v.pid≠p.id):madeBy p v=none:=by unfold madeBy;rw [if_neg (fun e=>h e.symm)]
theorem vertOp_none(h:hasM L v.pid=false):vertOp L v=none:=by unfold vertOp;rw [List.findSome?_eq_none_iff];intro p hp;refine madeBy_far fun e => ?_;have:hasM L v.pid=true:=List.any_eq_true.2 ⟨p,hp,by simp [e]⟩;rw [h] at this;cases this
theorem vertM_isSome(L:List PatchM)(v:VidM):(vertM L v).isSome=(vertOp L v).isSome:=by unfold vertM;simp
theorem hasM_of_mem(h:p∈L):hasM L p.id=true:=List.any_eq_true.2 ⟨p,h,by simp⟩
def lookM(L:List PatchM)(p:PatchM)(v:VidM):Option VertM:=if v.pid=p.id then(madeBy p v).map fun o=>⟨v,o.kind,fileOf v o,o.text,false⟩ else vertM L v
theorem look_op(hn:hasM L p.id=false)(v:VidM):vertOp (L++[p]) v=if v.pid=p.id then madeBy p v else vertOp L v:=by
 rw [vertOp_snoc];split
 · rename_i h;rw [vertOp_none (by rw [h];exact hn)];rfl
 rename_i h;rw [madeBy_far h];cases vertOp L v <;> rfl
theorem look_kf(hn:hasM L p.id=false)(v:VidM) :
  (lookM L p v).map (fun x=>(x.kind,x.file))=(vertM (L++[p]) v).map (fun x=>(x.kind,x.file)):=by
 unfold vertM;rw [look_op hn];unfold lookM;split
 · cases madeBy p v <;> rfl
 unfold vertM;cases vertOp L v <;> rfl
def isK(x:Option VertM)(k:UInt8):Bool:=match x with|some x=>x.kind == k|none=>false
def refsB(L:List PatchM)(p:PatchM)(o:OpM):Bool:=
 if o.kind=2∨o.kind=3 then isK (lookM L p o.at') 1
 else if o.kind=5 then(lookM L p o.at').isSome
 else if o.kind=4 then isK (lookM L p o.at') 3 && (isK (lookM L p o.to) 3 && decide ((lookM L p o.at').map (·.file)=(lookM L p o.to).map (·.file)))
 else true
theorem map_parts{x y:Option VertM}(h:x.map (fun x=>(x.kind,x.file))=y.map (fun x=>(x.kind,x.file))):(∀ k,isK x k=isK y k)∧x.map (·.file)=y.map (·.file)∧x.isSome=y.isSome:=by cases x <;> cases y <;> simp_all [isK]
theorem refs_same(hn:hasM L p.id=false)(hk:o.kind=1∨o.kind=2∨o.kind=3∨o.kind=4∨o.kind=5):refsB L p o=refMet (L++[p]) o:=by obtain⟨a1,a2,a3⟩:=map_parts (look_kf hn o.at');obtain⟨b1,b2,b3⟩:=map_parts (look_kf hn o.to);have hi:∀ v k,isKind (L++[p]) v k=isK (vertM (L++[p]) v) k:=fun v k=>rfl;unfold refsB refMet;rw [hi,hi,hi];rw [a1,a2,a3,b2,a1,b1];rcases hk with h|h|h|h|h <;> simp [h]
theorem wf_nil:WfG []:=by refine⟨fun p h=>by simp at h,fun a=>by simp [vecM],fun a _=>by simp [vecM],fun q => ?_,fun q h=>by simp at h,fun q h=>by simp at h⟩;simp [hasM,vecM];omega
theorem deadM_snoc(L:List PatchM)(p:PatchM)(v:VidM):deadM (L++[p]) v=(deadM L v || p.ops.any fun o=>decide (o.kind=5) && decide (o.at'=v)):=by unfold deadM;simp
theorem old_kf(hn:hasM L p.id=false)(hv:hasM L v.pid=true):(vertM (L++[p]) v).map (fun x=>(x.kind,x.file))=(vertM L v).map (fun x=>(x.kind,x.file)):=by
 have:v.pid≠p.id:=fun e=>by rw [e,hn] at hv;cases hv
 unfold vertM;rw [look_op hn,if_neg this];cases vertOp L v <;> rfl
theorem kind_of(hg:goodP p=true)(ho:o∈p.ops):o.kind=1∨o.kind=2∨o.kind=3∨o.kind=4∨(o.kind=5∧o.at'.pid≠p.id):=by obtain⟨i,hi⟩:=List.mem_iff_getElem?.1 ho;exact opTail_kind (opGood_tail (oneB_parts (goodP_one hg hi)).1)
theorem refMet_old(hn:hasM L p.id=false)(hv:∀ v∈refsM o,hasM L v.pid=true)(h:refMet L o=true):refMet (L++[p]) o=true:=by
 have key:∀ v∈refsM o,(∀ k,isKind (L++[p]) v k=isKind L v k)∧(vertM (L++[p]) v).map (·.file)=(vertM L v).map (·.file)∧(vertM (L++[p]) v).isSome=(vertM L v).isSome:=fun v hm=>map_parts (old_kf hn (hv v hm));unfold refMet at h ⊢;split
 · rfl
 rename_i h1;rw [if_neg h1] at h;split
 · rename_i h2;rw [if_pos h2] at h;obtain⟨k1,_,_⟩:=key o.at' (refs_at_mem (by rcases h2 with h|h <;> simp [h]));rw [k1];exact h
 rename_i h2;rw [if_neg h2] at h;split
 · rename_i h4;rw [if_pos h4] at h;obtain⟨k1,k2,_⟩:=key o.at' (refs_at_mem (by simp [h4]));obtain⟨t1,t2,_⟩:=key o.to (refs_to_mem h4);rw [k1,t1,k2,t2];exact h
 rename_i h4;rw [if_neg h4] at h
 by_cases h5:o.kind=5
 · obtain⟨_,_,k3⟩:=key o.at' (refs_at_mem (by simp [h5]));rw [k3];exact h
 rw [vertM_isSome,vertOp_snoc];rw [vertM_isSome] at h;cases hx:vertOp L o.at' with
 | none=>rw [hx] at h;cases h
 | some y=>rfl
theorem wf_snoc(hw:WfG L)(hc:CheckOk L p):WfG (L++[p]):=by
 obtain⟨n1,n2,n3⟩:=next_parts (goodP_id hc.good) hc.next;have hrefs:∀ q∈L++[p],∀ o∈q.ops,∀ v∈refsM o,hasM (L++[p]) v.pid=true:=by
  intro q hq o ho v hv;rw [hasM_snoc,Bool.or_eq_true];rcases List.mem_append.1 hq with hq|hq
  · exact .inl (hw.refs q hq o ho v hv)
  rw [List.mem_singleton] at hq;subst hq
  by_cases he:v.pid=q.id
  · exact .inr (by simp [he])
  exact .inl (hc.deps _ (by rw [goodP_deps hc.good];exact mem_deps ho hv he))
 refine⟨fun q hq => ?_,fun a => ?_,fun a ha => ?_,fun q => ?_,hrefs,fun q hq o ho => ?_⟩
 ·
  rcases List.mem_append.1 hq with hq|hq
  · exact hw.good q hq
  rw [List.mem_singleton] at hq;rw [hq];exact hc.good
 ·
  rw [vecM_snoc];have:=hw.vec a;split
  · rename_i h;rw [← h];omega
  omega
 ·
  rw [vecM_snoc,hw.none a ha];split
  · rename_i h;rw [h] at n1;rw [n1] at ha;cases ha
  rfl
 ·
  rw [hasM_snoc,Bool.or_eq_true,hw.has,vecM_snoc,decide_eq_true_eq];constructor
  ·
   rintro(⟨h1,h2,h3⟩|h)
   · exact⟨h1,h2,by omega⟩
   subst h;exact⟨n1,by omega,by rw [if_pos rfl];omega⟩
  rintro⟨h1,h2,h3⟩;split at h3
  ·
   rename_i h
   by_cases he:q.seq.toNat=vecM L q.author+1
   ·
    right;have e2:p.id.seq=q.seq:=UInt16.toNat_inj.1 (by rw [n3,he,h]);cases hp:p.id
    cases q
    rw [hp] at h e2;simp only at h e2;rw [h,e2]
   exact .inl ⟨h1,h2,by omega⟩
  exact .inl ⟨h1,h2,by omega⟩
 rcases List.mem_append.1 hq with hq|hq
 · exact refMet_old hc.new (fun v hv=>hw.refs q hq o ho v hv) (hw.kinds q hq o ho)
 rw [List.mem_singleton] at hq;subst hq;exact hc.refs o ho
end Go.Proofs.YtjccmcgglfncdaaGreatDoor
