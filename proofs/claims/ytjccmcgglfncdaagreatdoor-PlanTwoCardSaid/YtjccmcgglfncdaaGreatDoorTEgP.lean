/- What is proved: PlanTwo, for every input; of the listed tables the walk needs the powers of ten. -/
import Derived.Test.YtjccmcgglfncdaaGreatDoorTRelP
set_option linter.unusedVariables false
set_option linter.unusedSimpArgs false
namespace Go.Proofs.YtjccmcgglfncdaaGreatDoor
open Go
variable{L:List (Nat × Nat)}{a b i j n x y:Nat}
theorem order_earlier:∀ k,∀ x y,y∈orderTo L n k→x<n→BeforeP L x y→x∈orderTo L n k∧(orderTo L n k).idxOf x<(orderTo L n k).idxOf y
 | 0,x,y,h,_,_=>absurd h List.not_mem_nil
 | k+1,x,y,h,hx,hb=>by
  have ih:∀ x y,y∈orderTo L n k→x<n→BeforeP L x y→x∈orderTo L n k∧(orderTo L n k).idxOf x<(orderTo L n k).idxOf y:=order_earlier k;have hw:=orderTo_whole L n k;have hs:orderTo L n (k+1)=stepO L n (orderTo L n k):=rfl;rw [hs] at h ⊢;unfold stepO at h ⊢;cases hp:pickM L n (orderTo L n k) with
  | none =>rw [hp] at h;exact ih x y h hx hb
  | some g =>
   rw [hp] at h;obtain⟨g1,g2,g3,g4⟩:=pick_some hp
   by_cases hy:y∈orderTo L n k
   · obtain⟨h1,h2⟩:=ih x y hy hx hb;exact⟨List.mem_append_left _ h1,by show(orderTo L n k++takeG L n g).idxOf x<(orderTo L n k++takeG L n g).idxOf y;rw [List.idxOf_append,List.idxOf_append,if_pos h1,if_pos hy];exact h2⟩
   have hyt:y∈takeG L n g:=(List.mem_append.1 h).resolve_left hy;have hyg:=(mem_takeG.1 hyt).2;have ha:AlikeP L y g:=(by rw [← hyg];exact(groupM_is L y).alike);have hxo:=g4 x hx (hb.right ha);refine⟨List.mem_append_left _ hxo,?_⟩;show(orderTo L n k++takeG L n g).idxOf x<(orderTo L n k++takeG L n g).idxOf y;rw [List.idxOf_append,List.idxOf_append,if_pos hxo,if_neg hy];have:=List.idxOf_lt_length_of_mem hxo;omega
theorem order_mem(L:List (Nat × Nat))(n:Nat)(hx:x<n):x∈orderM L n:=by
 have hw:=orderTo_whole L n n;have hl:(orderTo L n n).length=n:=by have h1:=orderTo_len L n n;have h2:=whole_len hw;omega
 refine Classical.byContradiction fun q => ?_;have:=nodup_lenN (m:=List.range n) (l:=x :: orderTo L n n) (List.nodup_cons.2 ⟨q,hw.nodup⟩) fun y hy=>by
  rcases List.mem_cons.1 hy with rfl|hy
  · exact List.mem_range.2 hx
  exact List.mem_range.2 (hw.lt y hy)
 rw [List.length_cons,List.length_range] at this;omega
theorem order_bef(hx:x<n)(hy:y<n)(hb:BeforeP L x y):(orderM L n).idxOf x<(orderM L n).idxOf y:=(order_earlier n x y (order_mem L n hy) hx hb).2
theorem order_nodup(L:List (Nat × Nat))(n:Nat):(orderM L n).Nodup:=(orderTo_whole L n n).nodup
theorem order_in(h:x∈orderM L n):x<n:=(orderTo_whole L n n).lt x h
noncomputable def posM(L:List (Nat × Nat))(n x:Nat):Nat:=(orderM L n).idxOf (groupM L x)
theorem group_lt(hx:x<n):groupM L x<n:=Nat.lt_of_le_of_lt (groupM_le L x) hx
theorem idx_inj{l:List Nat}(hx:x∈l)(h:l.idxOf x=l.idxOf y):x=y:=by
 have h1:=List.idxOf_lt_length_of_mem hx;have h2:l.idxOf y<l.length:=by rw [← h];exact h1
 have e1:l[l.idxOf x]=x:=List.getElem_idxOf h1;have e2:l[l.idxOf y]=y:=List.getElem_idxOf h2;rw [← e1,← e2];congr 1
theorem pos_alike(hx:x<n)(h:posM L n x=posM L n y):AlikeP L x y:=groupM_alike.1 (idx_inj (order_mem L n (group_lt hx)) h)
theorem pos_le(hx:x<n)(hy:y<n)(h:Lead L x y):posM L n x≤posM L n y:=by
 by_cases hb:Lead L y x
 · have:groupM L x=groupM L y:=groupM_alike.2 (.inr ⟨h,hb⟩);unfold posM;rw [this];exact Nat.le_refl _
 have h1:BeforeP L x y:=⟨h,hb⟩;exact Nat.le_of_lt (order_bef (group_lt hx) (group_lt hy) ((h1.left (groupM_is L x).alike).right (groupM_is L y).alike))
theorem lead_mono{L':List (Nat × Nat)}(h:∀ s∈L,s∈L')(hl:Lead L i j):Lead L' i j:=by
 induction hl with
 | step h1=>exact .step (h _ h1)
 | more _ h2 ih=>exact .more ih (h _ h2)
structure Chn (R:List (Nat × Nat)) (n:Nat) (at':List Nat) (R':List (Nat × Nat)):Prop where
 old:∀ s∈R,s.1<n∧s.2<n
 sub:∀ s∈R',s∈R∨∃ j,at'[j]? = some s.1∧at'[j+1]? = some s.2
 sup:∀ s∈R,s∈R'
 ties:∀(j a b:Nat),at'[j]? = some a→at'[j+1]? = some b→(a,b)∈R'∨Lead R a b
 rise:∀(i j a b:Nat),at'[i]? = some a→at'[j]? = some b→a<n→b<n→i<j→posM R n a<posM R n b
 firm:∀ a∈at',a<n→∀ y:Nat,y<n→y≠a→¬ AlikeP R a y
 nodup:at'.Nodup
section
variable {R : List (Nat × Nat)} {n : Nat} {at' : List Nat} {R' : List (Nat × Nat)}
theorem nodup_at{l:List Nat}(h:l.Nodup)(hi:l[i]? = some a)(hj:l[j]? = some a):i=j:=
 (List.getElem?_inj (List.getElem?_eq_some_iff.1 hi).1 h).1 (hi.trans hj.symm)
theorem Chn.idx(h:Chn R n at' R')(hi:at'[i]? = some a)(hj:at'[j]? = some b)(ha:a<n)(hb:b<n)(hp:posM R n a≤posM R n b):i≤j:=by
 rcases Nat.lt_or_ge j i with q|q
 · have:=h.rise j i b a hj hi hb ha q;omega
 exact q
def OnW(R:List (Nat × Nat))(n:Nat)(at':List Nat)(j x:Nat):Prop:=(∃ m,j≤m∧at'[m]? = some x)∨(x<n∧∃ m a,j≤m∧at'[m]? = some a∧a<n∧posM R n a≤posM R n x)
theorem Chn.on(h:Chn R n at' R')(hx:OnW R n at' j x)(hs:(x,y)∈R'):OnW R n at' j y:=by
 rcases h.sub _ hs with h1|⟨m,h1,h2⟩
 ·
  obtain⟨hxn,hyn⟩:=h.old _ h1;have hxn:x<n:=hxn;have hyn:y<n:=hyn;have hp:=pos_le hxn hyn (.step h1);rcases hx with⟨m,hm,hx⟩|⟨_,m,a,hm,ha,han,hpa⟩
  · exact .inr ⟨hyn,m,x,hm,hx,hxn,hp⟩
  exact .inr ⟨hyn,m,a,hm,ha,han,by omega⟩
 have h1:at'[m]? = some x:=h1;have h2:at'[m+1]? = some y:=h2;refine .inl ⟨m+1,?_,h2⟩;rcases hx with⟨m2,hm,hx⟩|⟨hxn,m2,a,hm,ha,han,hpa⟩
 · have:=nodup_at h.nodup h1 hx;omega
 have:=h.idx ha h1 han hxn hpa;omega
theorem Chn.on_lead(h:Chn R n at' R')(hx:OnW R n at' j x)(hl:Lead R' x y):OnW R n at' j y:=by
 induction hl with
 | step h1=>exact h.on hx h1
 | more _ h2 ih=>exact h.on ih h2
theorem Chn.no_back(h:Chn R n at' R')(hi:at'[i]? = some a)(hj:at'[j]? = some b)(hij:i<j):¬ Lead R' b a:=by
 intro hl;rcases h.on_lead (.inl ⟨j,Nat.le_refl _,hj⟩) hl with⟨m,hm,hx⟩|⟨han,m,c,hm,hc,hcn,hp⟩
 · have:=nodup_at h.nodup hi hx;omega
 have:=h.idx hc hi hcn han hp;omega
theorem Chn.ahead(h:Chn R n at' R'):∀(d i a b:Nat),at'[i]? = some a→at'[i+d+1]? = some b→Lead R' a b
 | 0,i,a,b,hi,hj=>by
  rcases h.ties i a b hi hj with h1|h1
  · exact .step h1
  exact lead_mono h.sup h1
 | d+1,i,a,b,hi,hj=>by
  have hlt:=(List.getElem?_eq_some_iff.1 hj).1;have hc:at'[i+d+1]? = some at'[i+d+1]:=List.getElem?_eq_getElem (by omega);have h1:=h.ahead d i a _ hi hc;refine h1.trans ?_;rcases h.ties (i+d+1) _ b hc hj with h2|h2
  · exact .step h2
  exact lead_mono h.sup h2
theorem Chn.before(h:Chn R n at' R')(hi:at'[i]? = some a)(hj:at'[j]? = some b)(hij:i<j):BeforeP R' a b:=by obtain⟨d,rfl⟩:∃ d,j=i+d+1:=⟨j - i - 1,by omega⟩;exact⟨h.ahead d i a b hi hj,h.no_back hi hj hij⟩
theorem Chn.alone(h:Chn R n at' R')(hi:at'[i]? = some a)(hy:y<n∨y∈at')(hne:y≠a):¬ AlikeP R' a y:=by
 intro hal
 rcases hal with e|⟨h1,h2⟩
 · exact hne e.symm
 by_cases hya:y∈at'
 ·
  obtain⟨j,hj⟩:=List.getElem?_of_mem hya
  rcases Nat.lt_trichotomy i j with q|q|q
  · exact h.no_back hi hj q h2
  · subst q;rw [hi] at hj;exact hne (Option.some.inj hj).symm
  exact h.no_back hj hi q h1
 have hyn:y<n:=hy.resolve_right hya
 -- y lies behind an old one of the chain, at i or later
 rcases h.on_lead (.inl ⟨i,Nat.le_refl _,hi⟩) h1 with⟨m,_,hx⟩|⟨_,m,c,hm,hc,hcn,hp⟩
 · exact hya (List.mem_of_getElem? hx)
 -- all that y leads to lies behind y, or behind an old one of the chain that does
 have key:∀ z,Lead R' y z→(z<n∧posM R n y≤posM R n z)∨∃(m1 m2 d:Nat),at'[m2]? = some z∧m1≤m2∧at'[m1]? = some d∧d<n∧posM R n y≤posM R n d:=by
  intro z hz;induction hz with
  | @step z h3 =>
   rcases h.sub _ h3 with h4|⟨m3,h4,_⟩
   · have h5:=h.old _ h4;exact .inl ⟨h5.2,pos_le h5.1 h5.2 (.step h4)⟩
   exact absurd (List.mem_of_getElem? h4) hya
  | @more k z _ h3 ih =>
   rcases h.sub _ h3 with h4|⟨m3,h4,h5⟩
   ·
    have h6:=h.old _ h4;have hkn:k<n:=h6.1;have hzn:z<n:=h6.2;have hkz:=pos_le hkn hzn (.step h4);rcases ih with⟨_,h7⟩|⟨m1,m2,d,h7,h8,h9,h10,h11⟩
    · exact .inl ⟨hzn,by omega⟩
    refine .inl ⟨hzn,?_⟩;rcases Nat.eq_or_lt_of_le h8 with e|q
    · subst e;rw [h7] at h9;cases h9;omega
    have:=h.rise m1 m2 d k h9 h7 h10 hkn q;omega
   have h4:at'[m3]? = some k:=h4;have h5:at'[m3+1]? = some z:=h5;rcases ih with⟨hkn,h7⟩|⟨m1,m2,d,h7,h8,h9,h10,h11⟩
   · exact .inr ⟨m3,m3+1,k,h5,by omega,h4,hkn,h7⟩
   have:=nodup_at h.nodup h4 h7;exact .inr ⟨m1,m3+1,d,h5,by omega,h9,h10,h11⟩
 rcases key a h2 with⟨han,h3⟩|⟨m1,m2,d,h3,h4,h5,h6,h7⟩
 ·
  have hic:i≤m:=hm
  have h4:posM R n a≤posM R n c:=by
   rcases Nat.eq_or_lt_of_le hm with e|q
   · subst e;rw [hi] at hc;cases hc;exact Nat.le_refl _
   exact Nat.le_of_lt (h.rise i m a c hi hc han hcn q)
  have h5:posM R n a=posM R n y:=by omega
  exact h.firm a (List.mem_of_getElem? hi) han y hyn hne (pos_alike han h5)
 have e:=nodup_at h.nodup h3 hi
 subst e
 have h8:posM R n d≤posM R n c:=by
  rcases Nat.eq_or_lt_of_le (Nat.le_trans h4 hm) with e|q
  · subst e;rw [h5] at hc;cases hc;exact Nat.le_refl _
  exact Nat.le_of_lt (h.rise m1 m d c h5 hc h6 hcn q)
 have h9:posM R n d=posM R n y:=by omega
 exact h.firm d (List.mem_of_getElem? h5) h6 y hyn (fun e=>hya (e▸List.mem_of_getElem? h5)) (pos_alike h6 h9)
end
end Go.Proofs.YtjccmcgglfncdaaGreatDoor
