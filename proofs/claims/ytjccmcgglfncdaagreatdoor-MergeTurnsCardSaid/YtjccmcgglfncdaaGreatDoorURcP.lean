/- What is proved: MergeTurns, for every input; of the listed tables the walk needs the powers of ten. -/
import Derived.Test.YtjccmcgglfncdaaGreatDoorUPgC
set_option linter.unusedVariables false
set_option linter.unusedSimpArgs false
namespace Go.Proofs.YtjccmcgglfncdaaGreatDoor
open Go Go.RowKit
variable{R:List (Nat × Nat)}{l:List VertM}{i:Nat}
def cntM(xs:List ByteArray)(s:ByteArray):Nat:=(xs.filter fun x=>decide (x=s)).length
theorem cnt_append(a b:List ByteArray)(s:ByteArray):cntM (a++b) s=cntM a s+cntM b s:=by unfold cntM;rw [List.filter_append,List.length_append]
theorem cnt_nil(s:ByteArray):cntM [] s=0:=rfl
theorem cnt_cons(x:ByteArray)(a:List ByteArray)(s:ByteArray):cntM (x :: a) s=(if x=s then 1 else 0)+cntM a s:=by
 unfold cntM;rw [List.filter_cons]
 by_cases h:x=s
 · simp [h];omega
 simp [h]
theorem cnt_zero{a:List ByteArray}{s:ByteArray}(h:∀ x∈a,x≠s):cntM a s=0:=by unfold cntM;rw [List.length_eq_zero_iff,List.filter_eq_nil_iff];intro x hx;simp [h x hx]
def isMark(t:ByteArray):Bool:=decide (t=markA) || decide (t=markE) || decide (t=markS) || decide (t=markT)
theorem markAE:¬ markA=markE:=by decide +kernel
theorem markAS:¬ markA=markS:=by decide +kernel
theorem markAT:¬ markA=markT:=by decide +kernel
theorem markES:¬ markE=markS:=by decide +kernel
theorem markET:¬ markE=markT:=by decide +kernel
theorem markST:¬ markS=markT:=by decide +kernel
theorem isMark_A:isMark markA=true:=by decide +kernel
theorem isMark_E:isMark markE=true:=by decide +kernel
theorem isMark_S:isMark markS=true:=by decide +kernel
theorem isMark_T:isMark markT=true:=by decide +kernel
mutual
def txtOne(l:List VertM):BlkM→List ByteArray
 | .mk k n s=>if k=1 then(if 0≤n∧n<(l.length:Int) then [textAt l n.toNat] else []) else txtAll l s
def txtAll(l:List VertM):List BlkM→List ByteArray
 | []=>[]
 | b :: r=>txtOne l b++txtAll l r
end
theorem txtOne_mk(l:List VertM)(k n:Int)(s:List BlkM):txtOne l (.mk k n s)=if k=1 then(if 0≤n∧n<(l.length:Int) then [textAt l n.toNat] else []) else txtAll l s:=by rw [txtOne]
theorem txtAll_nil(l:List VertM):txtAll l []=[]:=by rw [txtAll]
theorem txtAll_cons(l:List VertM)(b:BlkM)(r:List BlkM):txtAll l (b :: r)=txtOne l b++txtAll l r:=by rw [txtAll]
theorem txtAll_flat(l:List VertM):∀ bs:List BlkM,txtAll l bs=bs.flatMap (txtOne l)
 | []=>by rw [txtAll_nil];rfl
 | b :: r=>by rw [txtAll_cons,txtAll_flat l r,List.flatMap_cons]
mutual
def okB:BlkM→Prop
 | .mk k _ s=>(k=1∨k=2∨k=3∨k=4)∧okL s
def okL:List BlkM→Prop
 | []=>True
 | b :: r=>okB b∧okL r
end
theorem okB_mk{k n:Int}{s:List BlkM}:okB (.mk k n s)↔(k=1∨k=2∨k=3∨k=4)∧okL s:=by rw [okB]
theorem okL_all:∀ {bs:List BlkM},okL bs↔∀ b∈bs,okB b
 | []=>by rw [okL];simp
 | b :: r=>by rw [okL,okL_all];simp
theorem ok_line(i:Nat):okB (lineB i):=okB_mk.2 ⟨.inl rfl,by rw [okL];trivial⟩
def bareT(xs:List ByteArray):List ByteArray:=xs.filter fun t => !isMark t
theorem bareT_append(a b:List ByteArray):bareT (a++b)=bareT a++bareT b:=List.filter_append ..
theorem bareT_mark{m:ByteArray}(h:isMark m=true)(a:List ByteArray):bareT (m :: a)=bareT a:=by unfold bareT;rw [List.filter_cons,h];rfl
theorem bareT_id{a:List ByteArray}(h:∀ t∈a,isMark t=false):bareT a=a:=List.filter_eq_self.2 fun t ht=>by rw [h t ht];rfl
structure Told (l:List VertM) (seen txt:List ByteArray) (odd:Nat):Prop where
 bare:bareT seen=txt
 first:cntM seen markA=odd
 last:cntM seen markE=odd
theorem Told.append{s1 s2 t1 t2:List ByteArray}{o1 o2:Nat}(h1:Told l s1 t1 o1)(h2:Told l s2 t2 o2):Told l (s1++s2) (t1++t2) (o1+o2):=
 ⟨by rw [bareT_append,h1.bare,h2.bare],by rw [cnt_append,h1.first,h2.first],by rw [cnt_append,h1.last,h2.last]⟩
theorem told_nil(l:List VertM):Told l [] [] 0:=⟨rfl,rfl,rfl⟩
theorem told_between{m:ByteArray}(hm:m=markS∨m=markT):Told l [m] [] 0:=by
 rcases hm with rfl|rfl
 · exact⟨by rw [bareT_mark isMark_S];rfl,by rw [cnt_cons,if_neg (Ne.symm markAS),cnt_nil],by rw [cnt_cons,if_neg (Ne.symm markES),cnt_nil]⟩
 exact⟨by rw [bareT_mark isMark_T];rfl,by rw [cnt_cons,if_neg (Ne.symm markAT),cnt_nil],by rw [cnt_cons,if_neg (Ne.symm markET),cnt_nil]⟩
theorem told_text{t:ByteArray}(h:isMark t=false):Told l [t] [t] 0:=by
 have h2:t≠markA:=fun e=>by rw [e,isMark_A] at h;cases h
 have h3:t≠markE:=fun e=>by rw [e,isMark_E] at h;cases h
 exact⟨bareT_id (by simpa using h),by rw [cnt_cons,if_neg h2,cnt_nil],by rw [cnt_cons,if_neg h3,cnt_nil]⟩
theorem told_odd{s t:List ByteArray}{o:Nat}(h:Told l s t o):Told l (markA :: (s++[markE])) t (1+o):=by
 refine⟨?_,?_,?_⟩
 · rw [bareT_mark isMark_A,bareT_append,h.bare,bareT_mark isMark_E];exact List.append_nil t
 · rw [cnt_cons,if_pos rfl,cnt_append,h.first,cnt_cons,if_neg (Ne.symm markAE),cnt_nil];omega
 rw [cnt_cons,if_neg markAE,cnt_append,h.last,cnt_cons,if_pos rfl,cnt_nil];omega
mutual
theorem told_one(l:List VertM)(hl:∀ i,i<l.length→isMark (textAt l i)=false):∀ b:BlkM,okB b→Told l (seenOne l b) (txtOne l b) (oddB b)
 | .mk k n s,h=>by
  obtain⟨hk,hs⟩:=okB_mk.1 h;have ih:=told_all l hl s hs;rcases hk with rfl|rfl|rfl|rfl
  ·
   rw [seenOne_mk,txtOne_mk,if_pos rfl,if_pos rfl,odd_1]
   by_cases hv:0≤n∧n<(l.length:Int)
   · rw [if_pos hv];exact told_text (hl _ (by omega))
   rw [if_neg hv];exact told_nil l
  · rw [seenOne_mk,txtOne_mk,if_neg (by decide),if_neg (by decide),if_pos rfl,if_neg (by decide),odd_23 (.inl rfl)];exact told_odd (ih.2 markS true (.inl rfl))
  · rw [seenOne_mk,txtOne_mk,if_neg (by decide),if_neg (by decide),if_neg (by decide),if_pos rfl,if_neg (by decide),odd_23 (.inr rfl)];exact told_odd (ih.2 markT true (.inr rfl))
  rw [seenOne_mk,txtOne_mk,if_neg (by decide),if_pos rfl,if_neg (by decide),odd_0 (by decide) (by decide)];exact ih.1
theorem told_all(l:List VertM)(hl:∀ i,i<l.length→isMark (textAt l i)=false):∀ bs:List BlkM,okL bs→Told l (seenAll l bs) (txtAll l bs) (oddL bs)∧∀ m f,(m=markS∨m=markT)→Told l (seenJoin l m f bs) (txtAll l bs) (oddL bs)
 | [],_=>by rw [seenAll_nil,txtAll_nil,oddL_nil];exact⟨told_nil l,fun m f _=>by rw [seenJoin_nil];exact told_nil l⟩
 | b :: r,h=>by
  rw [okL] at h;have h1:=told_one l hl b h.1;have h2:=told_all l hl r h.2;rw [seenAll_cons,txtAll_cons,oddL_cons];refine⟨h1.append h2.1,fun m f hm => ?_⟩;rw [seenJoin_cons];have h3:=h1.append (h2.2 m false hm);cases f with
  | true=>exact h3
  | false =>have h4:=(told_between (l:=l) hm).append h3;rw [Nat.zero_add] at h4;exact h4
end
theorem wl_marks:∀ xs:List ByteArray,xs.length=(bareT xs).length+(cntM xs markA+cntM xs markE+cntM xs markS+cntM xs markT)
 | []=>rfl
 | x :: r=>by
  have ih:=wl_marks r;rw [cnt_cons,cnt_cons,cnt_cons,cnt_cons,List.length_cons]
  by_cases h:isMark x=true
  ·
   rw [bareT_mark h];unfold isMark at h;simp only [Bool.or_eq_true,decide_eq_true_eq] at h;rcases h with((rfl|rfl)|rfl)|rfl
   · rw [if_pos rfl,if_neg markAE,if_neg markAS,if_neg markAT];omega
   · rw [if_neg (Ne.symm markAE),if_pos rfl,if_neg markES,if_neg markET];omega
   · rw [if_neg (Ne.symm markAS),if_neg (Ne.symm markES),if_pos rfl,if_neg markST];omega
   rw [if_neg (Ne.symm markAT),if_neg (Ne.symm markET),if_neg (Ne.symm markST),if_pos rfl];omega
  have hb:bareT (x :: r)=x :: bareT r:=by unfold bareT;rw [List.filter_cons];simp [h]
  rw [hb,List.length_cons];have h':=h;unfold isMark at h';simp only [Bool.or_eq_true,decide_eq_true_eq,not_or] at h';rw [if_neg h'.1.1.1,if_neg h'.1.1.2,if_neg h'.1.2,if_neg h'.2];omega
theorem pieces_flat(R:List (Nat × Nat))(t:List Nat):∀ k,k≤t.length→(piecesTo R t k).1.flatten=t.take (piecesTo R t k).2
 | 0,_=>rfl
 | k+1,hk=>by
  have ih:=pieces_flat R t k (by omega);have h3:=pieces_at R t k
  by_cases h:k+1=t.length∨cutB R t (k+1)=true
  · rw [pieces_yes h];show((piecesTo R t k).1++[(t.take (k+1)).drop (piecesTo R t k).2]).flatten=t.take (k+1);rw [List.flatten_append,ih,List.flatten_cons,List.flatten_nil,List.append_nil];have:t.take (piecesTo R t k).2=(t.take (k+1)).take (piecesTo R t k).2:=(by rw [List.take_take,Nat.min_eq_left (by omega)]);rw [this,List.take_append_drop]
  rw [pieces_no h];exact ih
theorem pieces_all(R:List (Nat × Nat))(t:List Nat):(piecesM R t).flatten=t:=by
 unfold piecesM;rw [pieces_flat R t t.length (Nat.le_refl _)];rcases Nat.eq_zero_or_pos t.length with h|h
 · rw [List.eq_nil_of_length_eq_zero h];rfl
 obtain⟨k,hk⟩:∃ k,t.length=k+1:=⟨t.length - 1,by omega⟩;have h1:=pieces_yes (R:=R) (l:=t) (k:=k) (.inl hk.symm);rw [hk,h1];exact List.take_of_length_le (by omega)
theorem mem_pieces{t p:List Nat}(hp:p∈piecesM R t)(hi:i∈p):i∈t:=by rw [← pieces_all R t];exact List.mem_flatten.2 ⟨p,hp,hi⟩
theorem head_of(R:List (Nat × Nat))(l:List Nat){k:Nat}(hk:k<l.length):∃ i,headB R l i=true∧Near R l i k:=by
 have:∀ n k,k<n→k<l.length→∃ i,headB R l i=true∧Near R l i k:=by
  intro n;induction n with
  | zero=>intro k hk;exact absurd hk (Nat.not_lt_zero _)
  | succ n ih =>
   intro k hk hkl
   by_cases h:headB R l k=true
   · exact⟨k,h,.self hkl⟩
   have h2:∃ j,j<k∧Near R l j k:=Classical.byContradiction fun q=>h (headB_iff.2 fun j hj hn=>q ⟨j,hj,hn⟩);obtain⟨j,hj,hn⟩:=h2;obtain⟨i,h3,h4⟩:=ih j (by omega) (by omega);exact⟨i,h3,h4.trans hn⟩
 exact this (k+1) k (Nat.lt_succ_self _) hk
theorem sides_perm(R:List (Nat × Nat))(l:List Nat):(sidesM R l).flatten.Perm (List.range l.length):=by
 rw [List.perm_ext_iff_of_nodup]
 ·
  intro k;rw [List.mem_flatten,List.mem_range];constructor
  · rintro⟨s,hs,hk⟩;unfold sidesM at hs;obtain⟨i,hi,rfl⟩:=List.mem_map.1 hs;exact(mem_sideM.1 hk).right
  intro hk;obtain⟨i,h1,h2⟩:=head_of R l hk;refine⟨sideM R l i,?_,mem_sideM.2 h2⟩;unfold sidesM;exact List.mem_map.2 ⟨i,mem_heads.2 ⟨h2.left,h1⟩,rfl⟩
 ·
  unfold List.Nodup;rw [List.pairwise_flatten];refine⟨fun s hs => ?_,?_⟩
  · unfold sidesM at hs;obtain⟨i,hi,rfl⟩:=List.mem_map.1 hs;unfold sideM;exact List.nodup_range.filter _
  unfold sidesM;rw [List.pairwise_map];unfold headsM;refine((List.pairwise_lt_range (n:=l.length)).filter _).imp_of_mem ?_;intro a b _ hb hab x hx y hy hxy;subst hxy;have hb2:=headB_iff.1 (List.mem_filter.1 hb).2;exact hb2 a hab ((mem_sideM.1 hx).trans (mem_sideM.1 hy).symm)
 exact List.nodup_range
theorem range_getD(p:List Nat):((List.range p.length).map fun k=>p.getD k 0)=p:=by refine List.ext_getElem (by simp) fun i h1 h2 => ?_;simp [List.getD_eq_getElem?_getD,List.getElem?_eq_getElem h2]
theorem txt_line(l:List VertM)(h:i<l.length):txtOne l (lineB i)=[textAt l i]:=by unfold lineB;rw [txtOne_mk,if_pos rfl,if_pos ⟨by omega,by omega⟩,Int.toNat_natCast]
theorem txt_lines(l:List VertM):∀ t:List Nat,(∀ i∈t,i<l.length)→txtAll l (t.map lineB)=t.map (textAt l)
 | [],_=>by rw [List.map_nil,txtAll_nil];rfl
 | i :: t,h=>by rw [List.map_cons,txtAll_cons,txt_line l (h i (List.mem_cons_self ..)),txt_lines l t fun j hj=>h j (List.mem_cons_of_mem _ hj)];rfl
theorem flat_perm{α β:Type}(f g:α→List β):∀ xs:List α,(∀ x∈xs,(f x).Perm (g x))→(xs.flatMap f).Perm (xs.flatMap g)
 | [],_=>List.Perm.refl _
 | x :: xs,h=>by rw [List.flatMap_cons,List.flatMap_cons];exact(h x (List.mem_cons_self ..)).append (flat_perm f g xs fun y hy=>h y (List.mem_cons_of_mem _ hy))
theorem flat_flatten(l:List VertM)(xs:List (List Nat)):xs.flatMap (fun p=>p.map (textAt l))=xs.flatten.map (textAt l):=by rw [List.map_flatten,List.flatMap_def]
theorem mem_things{l s:List Nat}(hs:∀ k∈s,k<l.length)(h:i∈thingsM l s):i∈l:=by unfold thingsM at h;obtain⟨k,hk,rfl⟩:=List.mem_map.1 h;have:=hs k hk;rw [List.getD_eq_getElem?_getD,List.getElem?_eq_getElem this];exact List.getElem_mem this
theorem sides_in{l s:List Nat}(hs:s∈sidesM R l):∀ k∈s,k<l.length:=by intro k hk;unfold sidesM at hs;obtain⟨i,hi,rfl⟩:=List.mem_map.1 hs;exact(mem_sideM.1 hk).right
theorem piece_perm(l:List VertM)(R:List (Nat × Nat))(F:List Nat→List BlkM)(p:List Nat)(hp:∀ i∈p,i<l.length)
  (hF:∀ t:List Nat,t.length<p.length→(∀ i∈t,i<l.length)→okL (F t)∧(txtAll l (F t)).Perm (t.map (textAt l))):okB (pieceM R F p)∧(txtOne l (pieceM R F p)).Perm (p.map (textAt l)):=by
 by_cases h1:p.length=1
 · obtain⟨x,rfl⟩:=List.length_eq_one_iff.1 h1;unfold pieceM;rw [if_pos h1];refine⟨ok_line _,?_⟩;rw [show([x]:List Nat).getD 0 0=x from rfl,txt_line l (hp x (List.mem_singleton.2 rfl))];exact List.Perm.refl _
 by_cases h2:(sidesM R p).length=1
 ·
  unfold pieceM;rw [if_neg h1,if_pos h2];refine⟨okB_mk.2 ⟨.inr (.inr (.inl rfl)),okL_all.2 fun b hb => ?_⟩,?_⟩
  · obtain⟨i,_,rfl⟩:=List.mem_map.1 hb;exact ok_line i
  rw [txtOne_mk,if_neg (by decide),txt_lines l p hp]
 unfold pieceM;rw [if_neg h1,if_neg h2];have hs:∀ s∈sidesM R p,okL (F (thingsM p s))∧(txtAll l (F (thingsM p s))).Perm ((thingsM p s).map (textAt l)):=fun s hs=>hF _ (by rw [things_len];exact sides_less h2 hs) fun i hi=>hp i (mem_things (sides_in hs) hi);refine⟨okB_mk.2 ⟨.inr (.inl rfl),okL_all.2 fun b hb => ?_⟩,?_⟩
 · obtain⟨s,hm,rfl⟩:=List.mem_map.1 hb;exact okB_mk.2 ⟨.inr (.inr (.inr rfl)),(hs s hm).1⟩
 rw [txtOne_mk,if_neg (by decide),txtAll_flat,List.flatMap_map];have h3:=flat_perm (fun s=>txtOne l (BlkM.mk 4 0 (F (thingsM p s)))) (fun s=>(thingsM p s).map (textAt l)) (sidesM R p) fun s hm=>by rw [txtOne_mk,if_neg (by decide)];exact(hs s hm).2
 refine h3.trans ?_;have h4:(sidesM R p).flatMap (fun s=>(thingsM p s).map (textAt l))=((sidesM R p).flatten.map fun k=>p.getD k 0).map (textAt l):=by rw [List.map_flatten,List.map_flatten,List.flatMap_def,List.map_map];congr 1
 rw [h4];have h5:=(((sides_perm R p).map fun k=>p.getD k 0).map (textAt l));rw [range_getD] at h5;exact h5
theorem blk_perm(l:List VertM)(R:List (Nat × Nat)):∀(f:Nat) (t:List Nat),t.length<f→(∀ i∈t,i<l.length)→okL (blkM R f t)∧(txtAll l (blkM R f t)).Perm (t.map (textAt l))
 | 0,t,h,_=>absurd h (Nat.not_lt_zero _)
 | f+1,t,h,hl=>by
  rw [blkM];have hp:∀ p∈piecesM R t,okB (pieceM R (blkM R f) p)∧(txtOne l (pieceM R (blkM R f) p)).Perm (p.map (textAt l)):=fun p hp=>by have h4:=(pieces_sum R t t.length (Nat.le_refl _)).2 p hp;exact piece_perm l R (blkM R f) p (fun i hi=>hl i (mem_pieces hp hi)) fun u hu hul=>blk_perm l R f u (by omega) hul
  refine⟨okL_all.2 fun b hb => ?_,?_⟩
  · obtain⟨p,hm,rfl⟩:=List.mem_map.1 hb;exact(hp p hm).1
  rw [txtAll_flat,List.flatMap_map];have h3:=flat_perm (fun p=>txtOne l (pieceM R (blkM R f) p)) (fun p=>p.map (textAt l)) (piecesM R t) fun p hm=>(hp p hm).2;rw [flat_flatten,pieces_all] at h3;exact h3
theorem piece_calm{F:List Nat→List BlkM}{p:List Nat}(h:oddB (pieceM R F p)=0):p.length=1:=by
 refine Classical.byContradiction fun h1 => ?_
 by_cases h2:(sidesM R p).length=1
 · unfold pieceM at h;rw [if_neg h1,if_pos h2,odd_23 (.inr rfl)] at h;omega
 unfold pieceM at h;rw [if_neg h1,if_neg h2,odd_23 (.inl rfl)] at h;omega
theorem calm_map{F:List Nat→List BlkM}:∀ {ps:List (List Nat)},oddL (ps.map (pieceM R F))=0→ps.map (pieceM R F)=ps.flatten.map lineB
 | [],_=>rfl
 | p :: ps,h=>by
  rw [List.map_cons,oddL_cons] at h;have h1:oddB (pieceM R F p)=0:=by omega
  have h2:oddL (ps.map (pieceM R F))=0:=by omega
  have h3:=piece_calm h1;obtain⟨x,rfl⟩:=List.length_eq_one_iff.1 h3;rw [List.map_cons,calm_map h2,List.flatten_cons,List.map_append];unfold pieceM;rw [if_pos h3];rfl
theorem seen_lines(l:List VertM):∀ t:List Nat,(∀ i∈t,i<l.length)→seenAll l (t.map lineB)=t.map (textAt l)
 | [],_=>by rw [List.map_nil,seenAll_nil];rfl
 | i :: t,h=>by
  rw [List.map_cons,seenAll_cons,seen_lines l t fun j hj=>h j (List.mem_cons_of_mem _ hj)];have hi:=h i (List.mem_cons_self ..);have:seenOne l (lineB i)=[textAt l i]:=by unfold lineB;rw [seenOne_mk,if_pos rfl,if_pos ⟨by omega,by omega⟩,Int.toNat_natCast]
  rw [this];rfl
noncomputable def alTx(l:List VertM)(R:List (Nat × Nat)):List ByteArray:=(aliveX l R).map (textAt l)
theorem whole_told(hl:∀ i,i<l.length→isMark (textAt l i)=false):Told l (lnSeen l R) (txtAll l (lnBlk l R)) (lnOdd l R)∧(txtAll l (lnBlk l R)).Perm (alTx l R):=by have h:=blk_perm l R ((aliveX l R).length+1) (aliveX l R) (Nat.lt_succ_self _) fun i hi=>aliveX_lt hi;exact⟨(told_all l hl _ h.1).1,h.2⟩
theorem whole_marks(hl:∀ i,i<l.length→isMark (textAt l i)=false):cntM (lnSeen l R) markA=lnOdd l R∧cntM (lnSeen l R) markE=lnOdd l R∧(lnSeen l R).length=(alTx l R).length+(cntM (lnSeen l R) markA+cntM (lnSeen l R) markE+cntM (lnSeen l R) markS+cntM (lnSeen l R) markT):=by obtain⟨h1,h2⟩:=whole_told (R:=R) hl;refine⟨h1.first,h1.last,?_⟩;have h3:=wl_marks (lnSeen l R);rw [h1.bare,h2.length_eq] at h3;exact h3
theorem whole_calm(h:lnOdd l R=0):lnSeen l R=alTx l R:=by unfold lnOdd lnBlk at h;unfold lnSeen lnBlk alTx;rw [blkM] at h ⊢;rw [calm_map h,pieces_all];exact seen_lines l _ fun i hi=>aliveX_lt hi
end Go.Proofs.YtjccmcgglfncdaaGreatDoor
namespace Go.Proofs.YtjccmcgglfncdaaGreatDoor
open Go Go.RowKit
theorem mark_A:markOk markA=true:=by decide +kernel
theorem mark_E:markOk markE=true:=by decide +kernel
theorem mark_S:markOk markS=true:=by decide +kernel
theorem mark_T:markOk markT=true:=by decide +kernel
theorem line_bare{t:ByteArray}(h:lineOk t=true):isMark t=false:=by
 cases hm:isMark t with
 | false=>rfl
 | true =>
  have:markOk t=true:=by
   unfold isMark at hm;simp only [Bool.or_eq_true,decide_eq_true_eq] at hm;rcases hm with((rfl|rfl)|rfl)|rfl
   · exact mark_A
   · exact mark_E
   · exact mark_S
   · exact mark_T
  unfold lineOk at h;rw [this] at h;simp at h
theorem lines_ok{L:List PatchM}(hw:WfG L)(hl:∀ p∈L,p.ops.length≤200){f:VidM}{x:VertM}(hx:x∈linesM L f):lineOk x.text=true:=by
 unfold linesM ofM at hx;obtain⟨h1,h2⟩:=List.mem_filter.1 hx;simp only [Bool.and_eq_true,decide_eq_true_eq] at h2;have h3:=(mem_vertsM hl x).1 h1;unfold vertM at h3;obtain⟨o,ho,hxo⟩:=Option.map_eq_some_iff.1 h3;have hk:o.kind=3:=by rw [← h2.1,← hxo]
 have ht:x.text=o.text:=by rw [← hxo]
 rw [ht];unfold vertOp at ho;obtain⟨p,hp,hm⟩:=List.exists_of_findSome?_eq_some ho;unfold madeBy at hm;split at hm;rotate_left
 · cases hm
 obtain⟨hget,_⟩:=Option.filter_eq_some_iff.1 hm;have hg:=hw.good p hp;unfold goodP at hg;simp only [Bool.and_eq_true] at hg;have ha:=hg.2.2.2.2;unfold allB at ha;rw [List.all_eq_true] at ha;have hlt:=(List.getElem?_eq_some_iff.1 hget).1;have h9:=ha _ (List.mem_range.2 hlt);rw [hget] at h9;unfold oneB opGood opTail at h9;simp only [Bool.and_eq_true] at h9;have h8:=h9.1.2;rw [hk] at h8;rw [if_neg (by decide),if_neg (by decide),if_pos rfl] at h8;simp only [Bool.and_eq_true] at h8;exact h8.2
theorem wl_lines_bare{L:List PatchM}(hw:WfG L)(hl:∀ p∈L,p.ops.length≤200)(f:VidM):∀ i,i<(linesM L f).length→isMark (textAt (linesM L f) i)=false:=by intro i hi;have h:=List.getElem?_eq_getElem hi;rw [textAt_get h];exact line_bare (lines_ok hw hl (List.getElem_mem hi))
end Go.Proofs.YtjccmcgglfncdaaGreatDoor
namespace Go.Proofs.YtjccmcgglfncdaaGreatDoor
open Go
variable{t:ByteArray}{f:VidM}
noncomputable def fileT(L:List PatchM)(n:NameM):FileM:=⟨n.name,n.also.map fun t=>⟨t.toArray⟩,lnSeen (linesM L n.file) (relM L n.file)⟩
noncomputable def oddN(L:List PatchM)(n:NameM):Nat:=lnOdd (linesM L n.file) (relM L n.file)
noncomputable def cleanM(L:List PatchM):Bool:=(allM L).all fun n=>decide (oddN L n=0) && decide (n.flaws=[])
def plainF(f:FileM):Bool:=nameOk f.name && (decide (f.also.length=0) && f.lines.all fun t => !markOk t)
noncomputable def plainM(L:List PatchM):Bool:=(allM L).all fun n=>plainF (fileT L n)
section
variable {L : List PatchM}
theorem seen_each{l:List VertM}{R:List (Nat × Nat)}(hl:∀ i,i<l.length→isMark (textAt l i)=false):∀ t∈lnSeen l R,isMark t=true∨t∈alTx l R:=by
 intro t ht;obtain⟨h1,h2⟩:=whole_told (R:=R) hl;cases hm:isMark t with
 | true=>exact .inl rfl
 | false =>
  right;have h3:t∈bareT (lnSeen l R):=by unfold bareT;exact List.mem_filter.2 ⟨ht,by rw [hm];rfl⟩
  rw [h1.bare] at h3;exact h2.mem_iff.1 h3
theorem mark_is(h:isMark t=true):markOk t=true:=by
 unfold isMark at h;simp only [Bool.or_eq_true,decide_eq_true_eq] at h;rcases h with((rfl|rfl)|rfl)|rfl
 · exact mark_A
 · exact mark_E
 · exact mark_S
 exact mark_T
theorem alive_line(hw:WfG L):∀ t∈alTx (linesM L f) (relM L f),lineOk t=true:=by intro t ht;unfold alTx at ht;obtain⟨i,hi,rfl⟩:=List.mem_map.1 ht;have h:=List.getElem?_eq_getElem (aliveX_lt hi);rw [textAt_get h];exact lines_ok hw (wf_len hw) (List.getElem_mem _)
theorem line_nomark(h:lineOk t=true):markOk t=false:=by unfold lineOk at h;simp only [Bool.and_eq_true,Bool.not_eq_true'] at h;exact h.2
theorem odd_marks(hw:WfG L)(f:VidM):(lnSeen (linesM L f) (relM L f)).all (fun t => !markOk t)=decide (lnOdd (linesM L f) (relM L f)=0):=by
 have hl:=wl_lines_bare hw (wf_len hw) f;rw [Bool.eq_iff_iff,List.all_eq_true,decide_eq_true_eq];constructor
 · intro h;have h1:=(whole_marks (R:=relM L f) hl).1;rw [← h1];refine cnt_zero fun x hx e => ?_;have:=h x hx;rw [e,mark_A] at this;cases this
 intro h t ht;rw [whole_calm h] at ht;rw [line_nomark (alive_line hw t ht)];rfl
theorem lines_all(hw:WfG L)(f:VidM):(lnSeen (linesM L f) (relM L f)).all lineOk=(lnSeen (linesM L f) (relM L f)).all (fun t => !markOk t):=by
 have hl:=wl_lines_bare hw (wf_len hw) f;rw [Bool.eq_iff_iff,List.all_eq_true,List.all_eq_true];constructor
 · intro h t ht;rw [line_nomark (h t ht)];rfl
 intro h t ht;rcases seen_each hl t ht with hm|hm
 · have:=h t ht;rw [mark_is hm] at this;cases this
 exact alive_line hw t hm
theorem tilde_bad:nameOk (t++(tilde++textB f))=false:=by
 cases h:nameOk (t++(tilde++textB f)) with
 | false=>rfl
 | true=>exact absurd rfl (bc_ne (t:=t++(tilde++textB f)) (u:=t) (f:=f) h)
theorem tilde_bad0:nameOk (tilde++textB f)=false:=by
 cases h:nameOk (tilde++textB f) with
 | false=>rfl
 | true=>exact absurd rfl (ab_ne (t:=tilde++textB f) (f:=f) h)
theorem name_clean(hw:WfG L)(c:ByteArray→Nat)(f:VidM)(l:List VertM)(hl:∀ x∈l,nameOk x.text=true):decide ((nameOne L c f l).flaws=[])=(nameOk (nameOne L c f l).name && decide ((nameOne L c f l).also.length=0)):=by
 cases l with
 | nil =>show decide (([3]:List UInt8)=[])=(nameOk (tilde++textB f) && decide (([]:List (List UInt8)).length=0));rw [tilde_bad0];rfl
 | cons x l =>
  have hx:=hl x (List.mem_cons_self ..);show decide (((if(alsoM (x :: l) x.text).length=0 then [] else [2])++(if 1<c x.text+1 then [4] else []):List UInt8)=[])=(nameOk (if 1<c x.text+1 then x.text++(tilde++textB f) else x.text) && decide ((alsoM (x :: l) x.text).length=0))
  by_cases h1:1<c x.text+1
  ·
   rw [if_pos h1,if_pos h1,tilde_bad]
   by_cases h2:(alsoM (x :: l) x.text).length=0
   · rw [if_pos h2];rfl
   · rw [if_neg h2];rfl
  ·
   rw [if_neg h1,if_neg h1,hx]
   by_cases h2:(alsoM (x :: l) x.text).length=0
   · rw [if_pos h2];simp [h2]
   · rw [if_neg h2];simp [h2]
theorem all_one(k:Nat):∀ n∈(allTo L k).1,∃ c f,n=nameOne L c f (namesM L f):=by
 induction k with
 | zero=>intro n hn;rw [allTo_zero] at hn;exact absurd hn List.not_mem_nil
 | succ k ih =>
  intro n hn;cases hf:(filesM L)[k]? with
  | none =>
   have h1:allTo L (k+1)=allTo L k:=by
    have hk:(filesM L).length≤k:=by
     rcases Nat.lt_or_ge k (filesM L).length with q|q
     · rw [List.getElem?_eq_getElem q] at hf;cases hf
     · exact q
    unfold allTo;rw [List.take_of_length_le (by omega),List.take_of_length_le hk]
   rw [h1] at hn;exact ih n hn
  | some f =>
   rw [allTo_succ hf] at hn;unfold stepN at hn;split at hn
   · exact ih n hn
   ·
    rcases List.mem_append.1 hn with hn|hn
    · exact ih n hn
    · exact⟨_,f,List.mem_singleton.1 hn⟩
theorem all_names:∀ n∈allM L,∃ c f,n=nameOne L c f (namesM L f):=all_one _
theorem clean_plain(hw:WfG L):cleanM L=plainM L:=by unfold cleanM plainM;rw [Bool.eq_iff_iff,List.all_eq_true,List.all_eq_true];refine forall_congr' fun n=>forall_congr' fun hn => ?_;rw [← Bool.eq_iff_iff];obtain⟨c,f,rfl⟩:=all_names n hn;rw [name_clean hw c f _ (fun x hx=>name_ok hw hx)];unfold plainF;show(decide (oddN L _=0) && (_ && _))=(nameOk (nameOne L c f (namesM L f)).name && (decide (((nameOne L c f (namesM L f)).also.map fun t=>(⟨t.toArray⟩:ByteArray)).length=0) && (lnSeen (linesM L _) (relM L _)).all fun t => !markOk t));rw [odd_marks hw,List.length_map];unfold oddN;cases nameOk (nameOne L c f (namesM L f)).name <;> cases decide ((nameOne L c f (namesM L f)).also.length=0) <;> simp
end
end Go.Proofs.YtjccmcgglfncdaaGreatDoor
