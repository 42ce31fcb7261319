/- What is proved: MergeTurns, for every input; of the listed tables the walk needs the powers of ten. -/
import Derived.Test.YtjccmcgglfncdaaGreatDoorULcsP
import Derived.Test.YtjccmcgglfncdaaGreatDoorULinP
set_option linter.unusedVariables false
set_option linter.unusedSimpArgs false
namespace Go.Proofs.YtjccmcgglfncdaaGreatDoor
theorem ePairsF_in(a b:List ByteArray):∀ f i j,∀ p∈pairsF a b f i j,i≤p.1∧j≤p.2∧p.1<a.length∧p.2<b.length∧a[p.1]? = b[p.2]?
 | 0,i,j,p,h=>by rw [pairsF_end_zero] at h;exact absurd h (List.not_mem_nil)
 | f+1,i,j,p,h=>by
  by_cases hin:i<a.length∧j<b.length
  rotate_left
  · rw [pairsF_end hin] at h;exact absurd h (List.not_mem_nil)
  have hx:=List.getElem?_eq_getElem hin.1;have hy:=List.getElem?_eq_getElem hin.2
  by_cases hxy:a[i]=b[j]
  ·
   rw [pairsF_eq hx hy hxy] at h;rcases List.mem_cons.1 h with rfl|h
   · exact⟨Nat.le_refl _,Nat.le_refl _,hin.1,hin.2,by rw [hx,hy,hxy]⟩
   have:=ePairsF_in a b f _ _ p h;exact⟨by omega,by omega,this.2.2⟩
  by_cases hl:lcsAt a b i (j+1)≤lcsAt a b (i+1) j
  · rw [pairsF_left hx hy hxy hl] at h;have:=ePairsF_in a b f _ _ p h;exact⟨by omega,this.2⟩
  rw [pairsF_right hx hy hxy hl] at h;have:=ePairsF_in a b f _ _ p h;exact⟨this.1,by omega,this.2.2⟩
theorem pairsF_up(a b:List ByteArray):∀ f i j,(pairsF a b f i j).Pairwise fun p q=>p.1<q.1∧p.2<q.2
 | 0,i,j=>by rw [pairsF_end_zero];exact List.Pairwise.nil
 | f+1,i,j=>by
  by_cases hin:i<a.length∧j<b.length
  ·
   have hx:=List.getElem?_eq_getElem hin.1;have hy:=List.getElem?_eq_getElem hin.2
   by_cases hxy:a[i]=b[j]
   · rw [pairsF_eq hx hy hxy];refine List.pairwise_cons.2 ⟨fun q hq => ?_,pairsF_up a b f _ _⟩;have:=ePairsF_in a b f _ _ q hq;exact⟨by show i<q.1;omega,by show j<q.2;omega⟩
   by_cases hl:lcsAt a b i (j+1)≤lcsAt a b (i+1) j
   · rw [pairsF_left hx hy hxy hl];exact pairsF_up a b f _ _
   rw [pairsF_right hx hy hxy hl];exact pairsF_up a b f _ _
  rw [pairsF_end hin];exact List.Pairwise.nil
theorem ePairs_in{a b:List ByteArray}{p:Nat × Nat}(h:p∈pairs a b):p.1<a.length∧p.2<b.length∧a[p.1]? = b[p.2]? := by unfold pairs at h;exact(ePairsF_in a b _ _ _ p h).2.2
theorem pairs_up(a b:List ByteArray):(pairs a b).Pairwise fun p q=>p.1<q.1∧p.2<q.2:=by unfold pairs;exact pairsF_up a b _ _ _
def setKept(firm:List Nat)(out:List Int)(p:Nat × Nat):List Int:=out.set p.2 ((firm.getD p.1 0:Nat):Int)
theorem keptTo_fold(firm:List Nat)(ps:List (Nat × Nat))(m:Nat):keptTo firm ps m=ps.foldl (setKept firm) (List.replicate m (-1)):=rfl
theorem kept_len(firm:List Nat):∀(ps:List (Nat × Nat)) (out:List Int),(ps.foldl (setKept firm) out).length=out.length
 | [],out=>rfl
 | p :: ps,out=>by rw [List.foldl_cons,kept_len firm ps];unfold setKept;simp
theorem kept_at(firm:List Nat):∀(ps:List (Nat × Nat)) (out:List Int),(ps.Pairwise fun p q=>p.1<q.1∧p.2<q.2)→(∀ p∈ps,p.2<out.length) →
  (∀ p∈ps,(ps.foldl (setKept firm) out)[p.2]? = some ((firm.getD p.1 0:Nat):Int))∧∀ j,(∀ p∈ps,p.2≠j)→(ps.foldl (setKept firm) out)[j]? = out[j]?
 | [],out,_,_=>⟨fun p h=>absurd h (List.not_mem_nil),fun j _=>rfl⟩
 | p :: ps,out,hp,hl=>by
  obtain⟨h1,h2⟩:=List.pairwise_cons.1 hp;have hlen:(setKept firm out p).length=out.length:=by unfold setKept;simp
  obtain⟨i1,i2⟩:=kept_at firm ps (setKept firm out p) h2 fun q hq=>by rw [hlen];exact hl q (List.mem_cons_of_mem _ hq)
  refine⟨fun q hq => ?_,fun j hj => ?_⟩
  ·
   rcases List.mem_cons.1 hq with rfl|hq
   · rw [List.foldl_cons,i2 q.2 fun r hr e=>by have:=(h1 r hr).2;omega];unfold setKept;rw [List.getElem?_set_self (hl q (List.mem_cons_self ..))]
   rw [List.foldl_cons];exact i1 q hq
  rw [List.foldl_cons,i2 j fun r hr=>hj r (List.mem_cons_of_mem _ hr)];unfold setKept;rw [List.getElem?_set_ne (hj p (List.mem_cons_self ..))]
end Go.Proofs.YtjccmcgglfncdaaGreatDoor
namespace Go.Proofs.YtjccmcgglfncdaaGreatDoor
variable{t:ByteArray}{i k:Nat}
theorem foldl_take_succ{α β:Type}(f:β→α→β)(b:β){l:List α}{x:α}(h:l[k]? = some x):(l.take (k+1)).foldl f b=f ((l.take k).foldl f b) x:=by rw [take_succ' h,List.foldl_append];rfl
theorem kept_zero(firm:List Nat)(ps:List (Nat × Nat))(m:Nat):keptTo firm (ps.take 0) m=List.replicate m (-1):=rfl
theorem kept_succ{firm:List Nat}{ps:List (Nat × Nat)}{m:Nat}{p:Nat × Nat}(h:ps[k]? = some p):keptTo firm (ps.take (k+1)) m=(keptTo firm (ps.take k) m).set p.2 ((firm.getD p.1 0:Nat):Int):=foldl_take_succ (setKept firm) _ h
theorem kept_length(firm:List Nat)(ps:List (Nat × Nat))(m:Nat):(keptTo firm ps m).length=m:=by rw [keptTo_fold,kept_len,List.length_replicate]
theorem kept_is{firm:List Nat}{ps:List (Nat × Nat)}{m n:Nat}(hf:∀ i∈firm,i<n)(hn:0<n∨ps=[]){j:Nat}{x:Int}(h:(keptTo firm ps m)[j]? = some x):x = -1∨∃ i:Nat,x=(i:Int)∧i<n:=by
 have key:∀(ps:List (Nat × Nat)) (out:List Int),(0<n∨ps=[])→(∀ x∈out,x = -1∨∃ i:Nat,x=(i:Int)∧i<n)→∀ x∈ps.foldl (setKept firm) out,x = -1∨∃ i:Nat,x=(i:Int)∧i<n:=by
  intro ps;induction ps with
  | nil=>intro out _ ho;exact ho
  | cons p ps ih =>
   intro out hn ho;have hn':0<n:=hn.resolve_right (by simp);rw [List.foldl_cons];refine ih _ (.inl hn') fun x hx => ?_;unfold setKept at hx;rcases List.mem_or_eq_of_mem_set hx with hx|rfl
   · exact ho x hx
   refine .inr ⟨_,rfl,?_⟩;rw [List.getD_eq_getElem?_getD];cases hk:firm[p.1]? with
   | none=>exact hn'
   | some y=>exact hf y (List.mem_of_getElem? hk)
 rw [keptTo_fold] at h;exact key ps _ hn (fun x hx=>.inl (List.mem_replicate.1 hx).2) x (List.mem_of_getElem? h)
def killV5(l:List VertM)(i:Nat):OpM:=⟨5,(l.getD i noVert).id,noVid,⟨#[]⟩⟩
theorem kills_zero(l:List VertM)(kept:List Int)(alive:List Nat):killsE l (alive.take 0) kept=[]:=rfl
theorem kills_yes{l:List VertM}{kept:List Int}{alive:List Nat}(h:alive[k]? = some i)(hc:kept.contains (Int.ofNat i)=false):killsE l (alive.take (k+1)) kept=killsE l (alive.take k) kept++[killV5 l i]:=by
 unfold killsE;rw [take_succ' h,List.filter_append,List.map_append];have:[i].filter (fun(i:Nat) => !kept.contains (Int.ofNat i))=[i]:=by rw [List.filter_cons_of_pos (by rw [hc];rfl)];rfl
 rw [this];rfl
theorem kills_no{l:List VertM}{kept:List Int}{alive:List Nat}(h:alive[k]? = some i)(hc:kept.contains (Int.ofNat i)=true):killsE l (alive.take (k+1)) kept=killsE l (alive.take k) kept:=by
 unfold killsE;rw [take_succ' h,List.filter_append,List.map_append];have:[i].filter (fun(i:Nat) => !kept.contains (Int.ofNat i))=[]:=by rw [List.filter_cons_of_neg (by rw [hc];decide)];rfl
 rw [this,List.map_nil,List.append_nil]
theorem kills_len(l:List VertM)(kept:List Int)(alive:List Nat):(killsE l alive kept).length≤alive.length:=by unfold killsE;rw [List.length_map];exact List.length_filter_le _ _
section
variable {l : List VertM} {file : VidM} {id : PidM} {from' : Nat} {kept : List Int} {want : List ByteArray} {ks : List OpM} {j : Nat}
theorem adds_zero:addsTo l file id from' kept want ks 0=(ks,[]):=rfl
theorem zip_at{x:Int}(hk:kept[j]? = some x)(ht:want[j]? = some t):(kept.zip want)[j]? = some (x,t):=by rw [List.getElem?_zip_eq_some];exact⟨hk,ht⟩
theorem stepA_yes{s:List OpM × List VidM}{x:Int × ByteArray}(h:0≤x.1):stepA l file id from' s x=(s.1,s.2++[(l.getD x.1.toNat noVert).id]):=by unfold stepA;rw [if_pos h]
theorem stepA_no{s:List OpM × List VidM}{x:Int × ByteArray}(h:¬ 0≤x.1):stepA l file id from' s x=(s.1++[⟨3,file,noVid,x.2⟩],s.2++[⟨id,UInt8.ofNat (from'+s.1.length)⟩]):=by unfold stepA;rw [if_neg h]
theorem stepA_len(s:List OpM × List VidM)(x:Int × ByteArray):(stepA l file id from' s x).2.length=s.2.length+1∧(stepA l file id from' s x).1.length≤s.1.length+1:=by
 by_cases h:0≤x.1
 · rw [stepA_yes h];exact⟨by rw [List.length_append];rfl,Nat.le_succ _⟩
 rw [stepA_no h];exact⟨by rw [List.length_append];rfl,by rw [List.length_append];exact Nat.le_refl _⟩
theorem adds_yes(hk:kept[j]? = some (i:Int))(ht:want[j]? = some t) :
  addsTo l file id from' kept want ks (j+1)=((addsTo l file id from' kept want ks j).1,(addsTo l file id from' kept want ks j).2++[(l.getD i noVert).id]):=by unfold addsTo;rw [foldl_take_succ _ _ (zip_at hk ht)];generalize ((kept.zip want).take j).foldl (stepA l file id from') (ks,[])=s;rw [stepA_yes (Int.natCast_nonneg i)];rfl
theorem adds_no(hk:kept[j]? = some (-1))(ht:want[j]? = some t) :
  addsTo l file id from' kept want ks (j+1)=((addsTo l file id from' kept want ks j).1++[⟨3,file,noVid,t⟩],(addsTo l file id from' kept want ks j).2++[⟨id,UInt8.ofNat (from'+(addsTo l file id from' kept want ks j).1.length)⟩]):=by unfold addsTo;rw [foldl_take_succ _ _ (zip_at hk ht)];generalize ((kept.zip want).take j).foldl (stepA l file id from') (ks,[])=s;rw [stepA_no (show ¬ (0:Int) ≤ -1 by decide)]
theorem adds_len2(hl:kept.length=want.length):∀ j,j≤want.length→(addsTo l file id from' kept want ks j).2.length=j
 | 0,_=>rfl
 | j+1,hj=>by have ih:=adds_len2 hl j (by omega);have ht:=List.getElem?_eq_getElem (l:=want) (i:=j) (by omega);have hk:=List.getElem?_eq_getElem (l:=kept) (i:=j) (by omega);unfold addsTo at ih ⊢;rw [foldl_take_succ _ _ (zip_at hk ht)];rw [(stepA_len _ _).1,ih]
theorem adds_len1:∀ j,(addsTo l file id from' kept want ks j).1.length≤ks.length+j
 | 0=>by simp [adds_zero]
 | j+1=>by
  have ih:=adds_len1 j;unfold addsTo at ih ⊢;cases hx:(kept.zip want)[j]? with
  | none =>have:=List.getElem?_eq_none_iff.1 hx;rw [List.take_of_length_le (by omega)] at ih ⊢;omega
  | some x =>rw [foldl_take_succ _ _ hx];have:=(stepA_len (l:=l) (file:=file) (id:=id) (from':=from') (((kept.zip want).take j).foldl (stepA l file id from') (ks,[])) x).2;omega
end
noncomputable def tiesTo(R:List (Nat × Nat))(kept:List Int)(at':List VidM)(j:Nat):List OpM:=(List.range j).flatMap (edgesE R kept at')
open Classical in
noncomputable def befB(R:List (Nat × Nat))(i j:Nat):Bool:=decide (BeforeP R i j)
theorem befB_iff{R:List (Nat × Nat)}{j:Nat}:befB R i j=true↔BeforeP R i j:=by unfold befB;simp
theorem ties_zero(R:List (Nat × Nat))(kept:List Int)(at':List VidM):tiesTo R kept at' 0=[]:=rfl
theorem ties_succ(R:List (Nat × Nat))(kept:List Int)(at':List VidM)(j:Nat):tiesTo R kept at' (j+1)=tiesTo R kept at' j++edgesE R kept at' j:=by unfold tiesTo;rw [List.range_succ,List.flatMap_append];simp
theorem ties_one(R:List (Nat × Nat))(kept:List Int)(at':List VidM):tiesTo R kept at' 1=[]:=by rw [ties_succ,ties_zero];unfold edgesE;rw [if_neg (fun h=>absurd h.1 (by decide))];rfl
section
variable {R : List (Nat × Nat)} {kept : List Int} {at' : List VidM} {j : Nat} {x y : Int} {u v : VidM}
theorem getD_of{α:Type}{l:List α}{x d:α}(h:l[k]? = some x):l.getD k d=x:=by rw [List.getD_eq_getElem?_getD,h];rfl
theorem ties_yes(hx:kept[j]? = some x)(hy:kept[j+1]? = some y)(hu:at'[j]? = some u)(hv:at'[j+1]? = some v)(h:x<0∨y<0∨befB R x.toNat y.toNat=false) :
  tiesTo R kept at' (j+1+1)=tiesTo R kept at' (j+1)++[⟨4,u,v,⟨#[]⟩⟩]:=by rw [ties_succ R kept at' (j+1)];unfold edgesE;rw [Nat.add_sub_cancel,getD_of hx,getD_of hy,getD_of hu,getD_of hv,if_pos ⟨by omega,h.imp id (Or.imp id fun h q=>by rw [befB_iff.2 q] at h;cases h)⟩]
theorem ties_no(hx:kept[j]? = some x)(hy:kept[j+1]? = some y)(h1:0≤x)(h2:0≤y)(h3:befB R x.toNat y.toNat=true):tiesTo R kept at' (j+1+1)=tiesTo R kept at' (j+1):=by
 rw [ties_succ R kept at' (j+1)];unfold edgesE;rw [Nat.add_sub_cancel,getD_of hx,getD_of hy,if_neg,List.append_nil];rintro⟨_,h|h|h⟩
 · omega
 · omega
 exact h (befB_iff.1 h3)
theorem ties_len(R:List (Nat × Nat))(kept:List Int)(at':List VidM):∀ j,(tiesTo R kept at' j).length≤j
 | 0=>Nat.le_refl _
 | j+1=>by
  have ih:=ties_len R kept at' j;rw [ties_succ,List.length_append];unfold edgesE;split
  · simp only [List.length_cons,List.length_nil];omega
  simp only [List.length_nil];omega
end
theorem edit_eq(l:List VertM)(R:List (Nat × Nat))(alive firm:List Nat)(file:VidM)(id:PidM)(from':Nat)(want:List ByteArray)(ps:List (Nat × Nat)) :
  editM l R alive firm file id from' want ps=(addsTo l file id from' (keptTo firm ps want.length) want (killsE l alive (keptTo firm ps want.length)) want.length).1++tiesTo R (keptTo firm ps want.length) (addsTo l file id from' (keptTo firm ps want.length) want (killsE l alive (keptTo firm ps want.length)) want.length).2 want.length:=rfl
end Go.Proofs.YtjccmcgglfncdaaGreatDoor
