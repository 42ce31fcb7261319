/- Nothing is hidden, plain: what is seen of the blocks of a list. No line is a mark. RenderClean, plain: what is at odds is seen. -/
import Derived.Test.YtanfebljiblhbaaGreatDoorJBlmP
set_option linter.unusedVariables false
set_option linter.unusedSimpArgs false
namespace Go.Proofs.YtanfebljiblhbaaGreatDoor
open Go Go.RowKit

def cntM(xs:List ByteArray)(s:ByteArray):Nat:=(xs.filter fun x=>decide (x=s)).length
theorem cnt_append(a b:List ByteArray)(s:ByteArray):cntM (a++b) s=cntM a s+cntM b s:=by unfold cntM;rw [List.filter_append,List.length_append]
def isMark(t:ByteArray):Bool:=decide (t=markA) || decide (t=markE) || decide (t=markS) || decide (t=markT)
mutual
/-- the texts of the lines that are in a block -/
def txtOne(l:List VertM):BlkM→List ByteArray
 | .mk k n s=>if k=1 then(if 0≤n∧n<(l.length:Int) then [textAt l n.toNat] else []) else txtAll l s
def txtAll(l:List VertM):List BlkM→List ByteArray
 | []=>[]
 | b :: r=>txtOne l b++txtAll l r
end
theorem txtOne_mk(l:List VertM)(k n:Int)(s:List BlkM):txtOne l (.mk k n s)=if k=1 then(if 0≤n∧n<(l.length:Int) then [textAt l n.toNat] else []) else txtAll l s:=by rw [txtOne]
theorem txtAll_nil(l:List VertM):txtAll l []=[]:=by rw [txtAll]
theorem txtAll_cons(l:List VertM)(b:BlkM)(r:List BlkM):txtAll l (b :: r)=txtOne l b++txtAll l r:=by rw [txtAll]
theorem txtAll_flat(l:List VertM):∀ bs:List BlkM,txtAll l bs=bs.flatMap (txtOne l)
 | []=>by rw [txtAll_nil];rfl
 | b :: r=>by rw [txtAll_cons,txtAll_flat l r,List.flatMap_cons]
mutual
/-- blocks of the four kinds -/
def okB:BlkM→Prop
 | .mk k _ s=>(k=1∨k=2∨k=3∨k=4)∧okL s
def okL:List BlkM→Prop
 | []=>True
 | b :: r=>okB b∧okL r
end
theorem okB_mk{k n:Int}{s:List BlkM}:okB (.mk k n s)↔(k=1∨k=2∨k=3∨k=4)∧okL s:=by rw [okB]
theorem okL_all:∀ {bs:List BlkM},okL bs↔∀ b∈bs,okB b
 | []=>by rw [okL];simp
 | b :: r=>by rw [okL,okL_all];simp
theorem ok_line(i:Nat):okB (lineB i):=okB_mk.2 ⟨.inl rfl,by rw [okL];trivial⟩
/-- what is not a mark -/
def bareT(xs:List ByteArray):List ByteArray:=xs.filter fun t => !isMark t
theorem bareT_append(a b:List ByteArray):bareT (a++b)=bareT a++bareT b:=List.filter_append ..
/-- what the three hold of blocks: lines without marks are the texts; the marks of beginning and end are as many as are odd -/
structure Told (l:List VertM) (seen txt:List ByteArray) (odd:Nat):Prop where
 bare:bareT seen=txt
 first:cntM seen markA=odd
 last:cntM seen markE=odd
theorem Told.append{l:List VertM}{s1 s2 t1 t2:List ByteArray}{o1 o2:Nat}(h1:Told l s1 t1 o1)(h2:Told l s2 t2 o2):Told l (s1++s2) (t1++t2) (o1+o2):=
 ⟨by rw [bareT_append,h1.bare,h2.bare],by rw [cnt_append,h1.first,h2.first],by rw [cnt_append,h1.last,h2.last]⟩
/-! ### the blocks of a list have its lines -/
theorem pieces_flat(R:List (Nat × Nat))(t:List Nat):∀ k,k≤t.length→(piecesTo R t k).1.flatten=t.take (piecesTo R t k).2
 | 0,_=>rfl
 | k+1,hk=>by
  have ih:=pieces_flat R t k (by omega)
  have h3:=pieces_at R t k
  by_cases h:k+1=t.length∨cutB R t (k+1)=true
  ·
   rw [pieces_yes h]
   show((piecesTo R t k).1++[(t.take (k+1)).drop (piecesTo R t k).2]).flatten=t.take (k+1)
   rw [List.flatten_append,ih,List.flatten_cons,List.flatten_nil,List.append_nil]
   have:t.take (piecesTo R t k).2=(t.take (k+1)).take (piecesTo R t k).2:=by rw [List.take_take,Nat.min_eq_left (by omega)]
   rw [this,List.take_append_drop]
  ·
   rw [pieces_no h]
   exact ih
theorem pieces_all(R:List (Nat × Nat))(t:List Nat):(piecesM R t).flatten=t:=by
 unfold piecesM
 rw [pieces_flat R t t.length (Nat.le_refl _)]
 rcases Nat.eq_zero_or_pos t.length with h|h
 ·
  rw [List.eq_nil_of_length_eq_zero h];rfl
 ·
  obtain⟨k,hk⟩:∃ k,t.length=k+1:=⟨t.length - 1,by omega⟩
  have h1:=pieces_yes (R:=R) (l:=t) (k:=k) (.inl hk.symm)
  rw [hk,h1]
  exact List.take_of_length_le (by omega)
theorem mem_pieces{R:List (Nat × Nat)}{t p:List Nat}(hp:p∈piecesM R t){i:Nat}(hi:i∈p):i∈t:=by
 rw [← pieces_all R t]
 exact List.mem_flatten.2 ⟨p,hp,hi⟩
/-- each place has the first one of its side -/
theorem head_of(R:List (Nat × Nat))(l:List Nat){k:Nat}(hk:k<l.length):∃ i,headB R l i=true∧Near R l i k:=by
 have:∀ n k,k<n→k<l.length→∃ i,headB R l i=true∧Near R l i k:=by
  intro n
  induction n with
  | zero=>intro k hk;exact absurd hk (Nat.not_lt_zero _)
  | succ n ih =>
   intro k hk hkl
   by_cases h:headB R l k=true
   ·
    exact⟨k,h,.self hkl⟩
   ·
    have h2:∃ j,j<k∧Near R l j k:=Classical.byContradiction fun q=>h (headB_iff.2 fun j hj hn=>q ⟨j,hj,hn⟩)
    obtain⟨j,hj,hn⟩:=h2
    obtain⟨i,h3,h4⟩:=ih j (by omega) (by omega)
    exact⟨i,h3,h4.trans hn⟩
 exact this (k+1) k (Nat.lt_succ_self _) hk
/-- the sides part the places -/
theorem sides_perm(R:List (Nat × Nat))(l:List Nat):(sidesM R l).flatten.Perm (List.range l.length):=by
 rw [List.perm_ext_iff_of_nodup]
 ·
  intro k
  rw [List.mem_flatten,List.mem_range]
  constructor
  ·
   rintro⟨s,hs,hk⟩
   unfold sidesM at hs
   obtain⟨i,hi,rfl⟩:=List.mem_map.1 hs
   exact(mem_sideM.1 hk).right
  ·
   intro hk
   obtain⟨i,h1,h2⟩:=head_of R l hk
   refine⟨sideM R l i,?_,mem_sideM.2 h2⟩
   unfold sidesM
   exact List.mem_map.2 ⟨i,mem_heads.2 ⟨h2.left,h1⟩,rfl⟩
 ·
  unfold List.Nodup
  rw [List.pairwise_flatten]
  refine⟨fun s hs => ?_,?_⟩
  ·
   unfold sidesM at hs
   obtain⟨i,hi,rfl⟩:=List.mem_map.1 hs
   unfold sideM
   exact List.nodup_range.filter _
  ·
   unfold sidesM
   rw [List.pairwise_map]
   unfold headsM
   refine((List.pairwise_lt_range (n:=l.length)).filter _).imp_of_mem ?_
   intro a b _ hb hab x hx y hy hxy
   subst hxy
   have hb2:=headB_iff.1 (List.mem_filter.1 hb).2
   exact hb2 a hab ((mem_sideM.1 hx).trans (mem_sideM.1 hy).symm)
 ·
  exact List.nodup_range
theorem range_getD(p:List Nat):((List.range p.length).map fun k=>p.getD k 0)=p:=by
 refine List.ext_getElem (by simp) fun i h1 h2 => ?_
 simp [List.getD_eq_getElem?_getD,List.getElem?_eq_getElem h2]
theorem txt_line(l:List VertM){i:Nat}(h:i<l.length):txtOne l (lineB i)=[textAt l i]:=by
 unfold lineB
 rw [txtOne_mk,if_pos rfl,if_pos ⟨by omega,by omega⟩,Int.toNat_natCast]
theorem txt_lines(l:List VertM):∀ t:List Nat,(∀ i∈t,i<l.length)→txtAll l (t.map lineB)=t.map (textAt l)
 | [],_=>by rw [List.map_nil,txtAll_nil];rfl
 | i :: t,h=>by rw [List.map_cons,txtAll_cons,txt_line l (h i (List.mem_cons_self ..)),txt_lines l t fun j hj=>h j (List.mem_cons_of_mem _ hj)];rfl
theorem flat_perm{α β:Type}(f g:α→List β):∀ xs:List α,(∀ x∈xs,(f x).Perm (g x))→(xs.flatMap f).Perm (xs.flatMap g)
 | [],_=>List.Perm.refl _
 | x :: xs,h=>by
  rw [List.flatMap_cons,List.flatMap_cons]
  exact(h x (List.mem_cons_self ..)).append (flat_perm f g xs fun y hy=>h y (List.mem_cons_of_mem _ hy))
theorem flat_flatten(l:List VertM)(xs:List (List Nat)):xs.flatMap (fun p=>p.map (textAt l))=xs.flatten.map (textAt l):=by
 rw [List.map_flatten,List.flatMap_def]
theorem mem_things{l s:List Nat}{i:Nat}(hs:∀ k∈s,k<l.length)(h:i∈thingsM l s):i∈l:=by
 unfold thingsM at h
 obtain⟨k,hk,rfl⟩:=List.mem_map.1 h
 have:=hs k hk
 rw [List.getD_eq_getElem?_getD,List.getElem?_eq_getElem this]
 exact List.getElem_mem this
theorem sides_in{R:List (Nat × Nat)}{l s:List Nat}(hs:s∈sidesM R l):∀ k∈s,k<l.length:=by
 intro k hk
 unfold sidesM at hs
 obtain⟨i,hi,rfl⟩:=List.mem_map.1 hs
 exact(mem_sideM.1 hk).right
theorem piece_perm(l:List VertM)(R:List (Nat × Nat))(F:List Nat→List BlkM)(p:List Nat)(hp:∀ i∈p,i<l.length)
  (hF:∀ t:List Nat,t.length<p.length→(∀ i∈t,i<l.length)→okL (F t)∧(txtAll l (F t)).Perm (t.map (textAt l))):okB (pieceM R F p)∧(txtOne l (pieceM R F p)).Perm (p.map (textAt l)):=by
 by_cases h1:p.length=1
 ·
  obtain⟨x,rfl⟩:=List.length_eq_one_iff.1 h1
  unfold pieceM
  rw [if_pos h1]
  refine⟨ok_line _,?_⟩
  rw [show([x]:List Nat).getD 0 0=x from rfl,txt_line l (hp x (List.mem_singleton.2 rfl))]
  exact List.Perm.refl _
 ·
  by_cases h2:(sidesM R p).length=1
  ·
   unfold pieceM
   rw [if_neg h1,if_pos h2]
   refine⟨okB_mk.2 ⟨.inr (.inr (.inl rfl)),okL_all.2 fun b hb => ?_⟩,?_⟩
   ·
    obtain⟨i,_,rfl⟩:=List.mem_map.1 hb
    exact ok_line i
   ·
    rw [txtOne_mk,if_neg (by decide),txt_lines l p hp]
  ·
   unfold pieceM
   rw [if_neg h1,if_neg h2]
   have hs:∀ s∈sidesM R p,okL (F (thingsM p s))∧(txtAll l (F (thingsM p s))).Perm ((thingsM p s).map (textAt l)):=fun s hs=>hF _ (by rw [things_len];exact sides_less h2 hs) fun i hi=>hp i (mem_things (sides_in hs) hi)
   refine⟨okB_mk.2 ⟨.inr (.inl rfl),okL_all.2 fun b hb => ?_⟩,?_⟩
   ·
    obtain⟨s,hm,rfl⟩:=List.mem_map.1 hb
    exact okB_mk.2 ⟨.inr (.inr (.inr rfl)),(hs s hm).1⟩
   ·
    rw [txtOne_mk,if_neg (by decide),txtAll_flat,List.flatMap_map]
    have h3:=flat_perm (fun s=>txtOne l (BlkM.mk 4 0 (F (thingsM p s)))) (fun s=>(thingsM p s).map (textAt l)) (sidesM R p) fun s hm=>by
     rw [txtOne_mk,if_neg (by decide)]
     exact(hs s hm).2
    refine h3.trans ?_
    have h4:(sidesM R p).flatMap (fun s=>(thingsM p s).map (textAt l))=((sidesM R p).flatten.map fun k=>p.getD k 0).map (textAt l):=by
     rw [List.map_flatten,List.map_flatten,List.flatMap_def,List.map_map]
     congr 1
    rw [h4]
    have h5:=(((sides_perm R p).map fun k=>p.getD k 0).map (textAt l))
    rw [range_getD] at h5
    exact h5
theorem blk_perm(l:List VertM)(R:List (Nat × Nat)):∀(f:Nat) (t:List Nat),t.length<f→(∀ i∈t,i<l.length)→okL (blkM R f t)∧(txtAll l (blkM R f t)).Perm (t.map (textAt l))
 | 0,t,h,_=>absurd h (Nat.not_lt_zero _)
 | f+1,t,h,hl=>by
  rw [blkM]
  have hp:∀ p∈piecesM R t,okB (pieceM R (blkM R f) p)∧(txtOne l (pieceM R (blkM R f) p)).Perm (p.map (textAt l)):=fun p hp=>by
   have h4:=(pieces_sum R t t.length (Nat.le_refl _)).2 p hp
   exact piece_perm l R (blkM R f) p (fun i hi=>hl i (mem_pieces hp hi)) fun u hu hul=>blk_perm l R f u (by omega) hul
  refine⟨okL_all.2 fun b hb => ?_,?_⟩
  ·
   obtain⟨p,hm,rfl⟩:=List.mem_map.1 hb
   exact(hp p hm).1
  ·
   rw [txtAll_flat,List.flatMap_map]
   have h3:=flat_perm (fun p=>txtOne l (pieceM R (blkM R f) p)) (fun p=>p.map (textAt l)) (piecesM R t) fun p hm=>(hp p hm).2
   rw [flat_flatten,pieces_all] at h3
   exact h3
/-! ### what is seen of a sheet -/
end Go.Proofs.YtanfebljiblhbaaGreatDoor
namespace Go.Proofs.YtanfebljiblhbaaGreatDoor
open Go Go.RowKit

end Go.Proofs.YtanfebljiblhbaaGreatDoor
namespace Go.Proofs.YtanfebljiblhbaaGreatDoor
open Go

/-- a file as it is shown -/
noncomputable def fileT(L:List PatchM)(n:NameM):FileM:=⟨n.name,n.also.map fun t=>⟨t.toArray⟩,lnSeen (linesM L n.file) (relM L n.file)⟩
section
variable {L : List PatchM}
end
end Go.Proofs.YtanfebljiblhbaaGreatDoor
