/- Blocks, plain: a list cut into pieces, the sides of a piece, the tree of blocks. Contracts of block.cut, block.some. Blocks in memory: rows within rows. Contract of block.some. The side of a place, found from place to place: plain. -/
import Derived.Test.YtllcipobiengiaaGreatXTopB
set_option linter.unusedVariables false
set_option linter.unusedSimpArgs false
namespace Go.Proofs.YtllcipobiengiaaGreat
open Go Go.RowKit

/-- a block: its kind, its number, what is in it -/
inductive BlkM where
 | mk (kind num:Int) (subs:List BlkM)
def lineB(i:Nat):BlkM:=.mk 1 i []
noncomputable def cutB(R:List (Nat × Nat))(l:List Nat)(k:Nat):Bool:=(l.take k).all fun i=>(l.drop k).all fun j=>befB R i j
noncomputable def nearB(R:List (Nat × Nat))(i j:Nat):Bool:=leadB R i j || leadB R j i
theorem nearB_comm(R:List (Nat × Nat))(i j:Nat):nearB R i j=nearB R j i:=Bool.or_comm ..
/-- two places of a list hang together by steps -/
inductive Near (R:List (Nat × Nat)) (l:List Nat):Nat→Nat→Prop
 | self {i:Nat}:i<l.length→Near R l i i
 | more {i k j:Nat}:Near R l i k→j<l.length→nearB R (l.getD k 0) (l.getD j 0)=true→Near R l i j
theorem Near.left{R:List (Nat × Nat)}{l:List Nat}{i j:Nat}(h:Near R l i j):i<l.length:=by
 induction h with
 | self h=>exact h
 | more _ _ _ ih=>exact ih
theorem Near.right{R:List (Nat × Nat)}{l:List Nat}{i j:Nat}(h:Near R l i j):j<l.length:=by
 cases h with
 | self h=>exact h
 | more _ h _=>exact h
theorem Near.trans{R:List (Nat × Nat)}{l:List Nat}{i k j:Nat}(h:Near R l i k)(h':Near R l k j):Near R l i j:=by
 induction h' with
 | self _=>exact h
 | more _ h2 h3 ih=>exact .more ih h2 h3
theorem Near.symm{R:List (Nat × Nat)}{l:List Nat}{i j:Nat}(h:Near R l i j):Near R l j i:=by
 induction h with
 | self h=>exact .self h
 | @more k j h1 h2 h3 ih =>
  have:Near R l j k:=.more (.self h2) h1.right (by rw [nearB_comm];exact h3)
  exact this.trans ih
open Classical in
noncomputable def nearD(R:List (Nat × Nat))(l:List Nat)(i j:Nat):Bool:=decide (Near R l i j)
theorem nearD_iff{R:List (Nat × Nat)}{l:List Nat}{i j:Nat}:nearD R l i j=true↔Near R l i j:=by unfold nearD;simp
/-- the places that hang together with one, rising -/
noncomputable def sideM(R:List (Nat × Nat))(l:List Nat)(i:Nat):List Nat:=(List.range l.length).filter (nearD R l i)
theorem mem_sideM{R:List (Nat × Nat)}{l:List Nat}{i k:Nat}:k∈sideM R l i↔Near R l i k:=by
 unfold sideM
 rw [List.mem_filter,List.mem_range,nearD_iff]
 exact⟨And.right,fun h=>⟨h.right,h⟩⟩
/-- whether a place is the first one of its side -/
noncomputable def headB(R:List (Nat × Nat))(l:List Nat)(i:Nat):Bool:=(List.range i).all fun k => !nearD R l k i
noncomputable def headsM(R:List (Nat × Nat))(l:List Nat)(n:Nat):List Nat:=(List.range n).filter (headB R l)
noncomputable def sidesM(R:List (Nat × Nat))(l:List Nat):List (List Nat):=(headsM R l l.length).map (sideM R l)
theorem headB_iff{R:List (Nat × Nat)}{l:List Nat}{i:Nat}:headB R l i=true↔∀ k,k<i→¬ Near R l k i:=by
 unfold headB
 rw [List.all_eq_true]
 exact⟨fun h k hk hn=>by have:=h k (List.mem_range.2 hk);rw [nearD_iff.2 hn] at this;exact absurd this (by decide),fun h k hk=>by
  have:=h k (List.mem_range.1 hk)
  cases e:nearD R l k i with
  | false=>rfl
  | true=>exact absurd (nearD_iff.1 e) this⟩
theorem heads_succ(R:List (Nat × Nat))(l:List Nat)(n:Nat):headsM R l (n+1)=headsM R l n++if headB R l n=true then [n] else []:=by
 unfold headsM
 rw [List.range_succ,List.filter_append]
 cases h:headB R l n <;> simp [h]
/-- the pieces of a list, as far as place k; where the next one begins -/
noncomputable def piecesTo(R:List (Nat × Nat))(l:List Nat):Nat→List (List Nat) × Nat
 | 0=>([],0)
 | k+1=>let s:=piecesTo R l k;if k+1=l.length∨cutB R l (k+1)=true then(s.1++[(l.take (k+1)).drop s.2],k+1) else s
noncomputable def piecesM(R:List (Nat × Nat))(l:List Nat):List (List Nat):=(piecesTo R l l.length).1
theorem pieces_at(R:List (Nat × Nat))(l:List Nat):∀ k,(piecesTo R l k).2≤k
 | 0=>Nat.le_refl _
 | k+1=>by
  have:=pieces_at R l k
  unfold piecesTo
  simp only
  split
  ·
   exact Nat.le_refl _
  ·
   omega
noncomputable def thingsM(l:List Nat)(s:List Nat):List Nat:=s.map fun k=>l.getD k 0
/-- a piece as a block, its sides as their lists come to -/
noncomputable def pieceM(R:List (Nat × Nat))(ofF:List Nat→List BlkM)(l:List Nat):BlkM:=
 if l.length=1 then lineB (l.getD 0 0) else if(sidesM R l).length=1 then .mk 3 0 (l.map lineB) else .mk 2 0 ((sidesM R l).map fun s=>.mk 4 0 (ofF (thingsM l s)))
/-- a list as blocks; the number is how deep at most -/
noncomputable def blkM(R:List (Nat × Nat)):Nat→List Nat→List BlkM
 | 0,_=>[]
 | f+1,l=>(piecesM R l).map (pieceM R (blkM R f))
/-- the side of a place is the whole list, or its things are fewer -/
theorem side_few{R:List (Nat × Nat)}{l:List Nat}{i:Nat}:(sideM R l i).length≤l.length:=by
 unfold sideM
 exact Nat.le_trans (List.length_filter_le _ _) (by rw [List.length_range];exact Nat.le_refl _)
theorem side_all{R:List (Nat × Nat)}{l:List Nat}{i:Nat}(h:(sideM R l i).length=l.length){k:Nat}(hk:k<l.length):Near R l i k:=by
 unfold sideM at h
 have h2:(List.range l.length).filter (nearD R l i)=List.range l.length:=(List.filter_sublist ..).eq_of_length (by rw [h,List.length_range])
 have:=List.filter_eq_self.1 h2 k (List.mem_range.2 hk)
 exact nearD_iff.1 this
/-- two sides or more: each has fewer things -/
theorem sides_less{R:List (Nat × Nat)}{l:List Nat}(h:(sidesM R l).length≠1){s:List Nat}(hs:s∈sidesM R l):s.length<l.length:=by
 unfold sidesM at hs h
 obtain⟨i,hi,rfl⟩:=List.mem_map.1 hs
 rw [List.length_map] at h
 unfold headsM at hi h
 obtain⟨hi1,hi2⟩:=List.mem_filter.1 hi
 have hi1:=List.mem_range.1 hi1
 refine Nat.lt_of_le_of_ne side_few fun e=>h ?_
 have h0:i=0:=by
  rcases Nat.eq_zero_or_pos i with h0|h0
  ·
   exact h0
  ·
   exact absurd (side_all e (by omega:0<l.length)).symm (headB_iff.1 hi2 0 h0)
 subst h0
 have:(List.range l.length).filter (headB R l)=[0]:=by
  have hm:∀ k,k∈(List.range l.length).filter (headB R l)↔k=0:=by
   intro k
   rw [List.mem_filter,List.mem_range]
   constructor
   ·
    rintro⟨hk,hb⟩
    rcases Nat.eq_zero_or_pos k with h0|h0
    ·
     exact h0
    ·
     exact absurd (side_all e hk) (headB_iff.1 hb 0 h0)
   ·
    rintro rfl
    exact⟨hi1,hi2⟩
  have hp:((List.range l.length).filter (headB R l)).Pairwise (· < ·):=(List.pairwise_lt_range).filter _
  match hq:(List.range l.length).filter (headB R l) with
  | []=>have:=(hm 0).2 rfl;rw [hq] at this;exact absurd this (List.not_mem_nil)
  | [x]=>rw [(hm x).1 (by rw [hq];exact List.mem_singleton.2 rfl)]
  | x :: y :: r =>
   have h1:=(hm x).1 (by rw [hq];exact List.mem_cons_self ..)
   have h2:=(hm y).1 (by rw [hq];exact List.mem_cons_of_mem _ (List.mem_cons_self ..))
   rw [hq,h1,h2] at hp
   exact absurd ((List.pairwise_cons.1 hp).1 0 (List.mem_cons_self ..)) (Nat.lt_irrefl 0)
 rw [this];rfl
end Go.Proofs.YtllcipobiengiaaGreat
namespace Go.Proofs.YtllcipobiengiaaGreat
open Go Go.RowKit

def CtRel(R:List (Nat × Nat))(l:List Nat)(n:Nat)(w:World)(v:Value)(wr:World):Prop:=∃ k:Nat,k≤n∧v=.int .i64 k∧Hid (∀ i x:Nat,i<k→l[i]? = some x→∀ y∈l.drop n,befB R x y=true)∧wr=w
def Ct2Rel(R:List (Nat × Nat))(l:List Nat)(n x:Nat)(w:World)(v:Value)(wr:World):Prop:=∃ k:Nat,k≤l.length - n∧v=.int .i64 k∧Hid (∀ j y:Nat,j<k→l[n+j]? = some y→befB R x y=true)∧wr=w
theorem cut_yes{R:List (Nat × Nat)}{l:List Nat}{n:Nat}(hn:n≤l.length)(h:∀ i x:Nat,i<n→l[i]? = some x→∀ y∈l.drop n,befB R x y=true):cutB R l n=true:=by
 unfold cutB
 rw [List.all_eq_true]
 intro x hx
 obtain⟨i,hi⟩:=List.getElem?_of_mem hx
 have hi1:=(List.getElem?_eq_some_iff.1 hi).1
 rw [List.length_take] at hi1
 rw [List.getElem?_take,if_pos (by omega)] at hi
 rw [List.all_eq_true]
 exact h i x (by omega) hi
theorem cut_no{R:List (Nat × Nat)}{l:List Nat}{n i j x y:Nat}(hi:i<n)(hx:l[i]? = some x)(hy:l[n+j]? = some y)(h:befB R x y=false):cutB R l n=false:=by
 unfold cutB
 rw [List.all_eq_false]
 refine⟨x,List.mem_of_getElem? (i:=i) (by rw [List.getElem?_take,if_pos hi];exact hx),?_⟩
 rw [Bool.not_eq_true,List.all_eq_false]
 exact⟨y,List.mem_of_getElem? (i:=j) (by rw [List.getElem?_drop];exact hy),by rw [h];decide⟩
theorem ct_next{R:List (Nat × Nat)}{l:List Nat}{n k x:Nat}(h:∀ i x:Nat,i<k→l[i]? = some x→∀ y∈l.drop n,befB R x y=true)(hx:l[k]? = some x)(h2:∀ j y:Nat,j<l.length - n→l[n+j]? = some y→befB R x y=true) :
  ∀ i x:Nat,i<k+1→l[i]? = some x→∀ y∈l.drop n,befB R x y=true:=by
 intro i z hi hz y hy
 rcases Nat.lt_or_ge i k with h1|h1
 ·
  exact h i z h1 hz y hy
 ·
  obtain rfl:i=k:=by omega
  rw [hx] at hz
  cases hz
  obtain⟨j,hj⟩:=List.getElem?_of_mem hy
  have hj1:=(List.getElem?_eq_some_iff.1 hj).1
  rw [List.length_drop] at hj1
  rw [List.getElem?_drop] at hj
  exact h2 j y hj1 hj
attribute [local irreducible] cutB befB
set_option maxHeartbeats 8000000 in
set_option maxRecDepth 100000 in
theorem bcut_any(r n:Nat)(R:List (Nat × Nat))(v:Value)(l:List Nat)(k:Nat)(w:World)(h:RelAt w r n R)(hv:GRow encI 1 w v l)(hl:∀ i∈l,i≤1000000)(hk:k<l.length) :
  Calls Tryz.prog 120 #[.pointer (some ⟨r,0,none⟩),v,.int .i64 k] w fun e w'=>e=.returned (.bool (cutB R l k))∧w'=w:=by
 obtain⟨a,cap,rfl,h1,h2,hc⟩:=irow_at hv
 unfold maxLen at h2
 obtain⟨b,off,rfl,sb,hcb⟩:=hc.resolve_left (by omega)
 have HC:=Lib.hid hcb
 have HR:=Lib.hid h
 have HL:=Lib.hid hl
 clear hv hcb h hl hc
 go_enter Tryz.func120,Tryz.ntmps120
 go_wp2_with fail
 go_loopw [15] (fun v15 wr=>CtRel R l k w v15 wr) (fun v15 _=>k - (intOf v15).toNat)
 case atStart=>exact⟨0,by omega,rfl,Lib.hid (fun i x hi=>absurd hi (by omega)),rfl⟩
 case round =>
  obtain⟨i,hi,rfl,HK,hw⟩:=hrel
  obtain rfl:=hw.symm
  by_cases hlt:i<k
  ·
   obtain⟨x,hx⟩:=get_of_lt (xs:=l) (i:=i) (by omega)
   have x0:=(HC.out i x hx _ (Below.refl _ _)).2
   have HX:=Lib.hid hx
   have hxl:=HL.out x (List.mem_of_getElem? hx)
   clear hx
   go_wp2_with fail
   go_loopw [23] (fun v23 wr=>Ct2Rel R l k x w v23 wr) (fun v23 _=>l.length - k - (intOf v23).toNat)
   case atStart=>exact⟨0,by omega,rfl,Lib.hid (fun i x hi=>absurd hi (by omega)),rfl⟩
   case round =>
    obtain⟨j,hj,rfl,HJ,hw⟩:=hrel
    obtain rfl:=hw.symm
    by_cases hlt2:j<l.length - k
    ·
     obtain⟨y,hy⟩:=get_of_lt (xs:=l) (i:=k+j) (by omega)
     have y0:=(HC.out (k+j) y hy _ (Below.refl _ _)).2
     have HY:=Lib.hid hy
     have hyl:=HL.out y (List.mem_of_getElem? hy)
     have y1:w.cell? ⟨b,off+k+j,none⟩=some (.int .i64 y):=by rw [Nat.add_assoc];exact y0
     clear hy y0
     cases hf:befB R x y with
     | true =>
      have HF:=Lib.hid hf
      have HJ2:Hid (∀ i z:Nat,i<j+1→l[k+i]? = some z→befB R x z=true):=Lib.hid fun i z hi hz=>by
       rcases Nat.lt_or_ge i j with h1|h1
       ·
        exact HJ.out i z h1 hz
       ·
        obtain rfl:i=j:=by omega
        rw [HY.out] at hz;cases hz;exact HF.out
      clear hf
      go_wp2_with fail
      refine(rchBefore_any r n x y R _ HR.out hxl hyl).mono ?_
      rw [HF.out]
      rintro e w1 ⟨rfl,hw⟩
      obtain rfl:=hw.symm
      go_wp2_with fail
      go_roundw
      case rel=>exact⟨j+1,by omega,by go_num,HJ2,(by first|exact rfl|trivial)⟩
      case measure=>simp [intOf];omega
     | false =>
      have HF:=Lib.hid hf
      have HN:=Lib.hid (cut_no hlt HX.out HY.out hf)
      clear hf
      go_wp2_with fail
      refine(rchBefore_any r n x y R _ HR.out hxl hyl).mono ?_
      rw [HF.out]
      rintro e w1 ⟨rfl,hw⟩
      obtain rfl:=hw.symm
      go_wp2_with fail
      go_ret
      exact⟨ret_val (congrArg Value.bool HN.out.symm),rfl⟩
    ·
     obtain rfl:j=l.length - k:=by omega
     have HK2:=Lib.hid (ct_next HK.out HX.out HJ.out)
     go_wp2_with fail
     go_roundw
     case rel=>exact⟨i+1,by omega,by go_num,HK2,(by first|exact rfl|trivial)⟩
     case measure=>simp [intOf];omega
  ·
   obtain rfl:i=k:=by omega
   have HN:=Lib.hid (cut_yes (by omega) HK.out)
   go_wp2_with fail
   go_ret
   exact⟨ret_val (congrArg Value.bool HN.out.symm),rfl⟩
end Go.Proofs.YtllcipobiengiaaGreat
namespace Go.Proofs.YtllcipobiengiaaGreat
open Go Go.RowKit

/-- a block as it lies: with the value of the row of what is in it -/
inductive BlL where
 | mk (kind num:Int) (sv:Value) (subs:List BlL)
def encBl:BlL→List Value
 | .mk k n sv _=>[.int .i64 k,.int .i64 n,sv]
theorem encBl_len(x:BlL):(encBl x).length=3:=by cases x;rfl
mutual
def bareB:BlL→BlkM
 | .mk k n _ s=>.mk k n (bareL s)
def bareL:List BlL→List BlkM
 | []=>[]
 | b :: l=>bareB b :: bareL l
end
theorem bareL_map:∀ l:List BlL,bareL l=l.map bareB
 | []=>by unfold bareL;rfl
 | b :: l=>by unfold bareL;rw [bareL_map l];rfl
mutual
/-- what is in a block lies in w, in blocks of which A holds -/
def BIn(A:Nat→Prop)(w:World):BlL→Prop
 | .mk _ _ sv s=>GRow encBl 3 w sv s∧sv.oneCell'=true∧(∀ b,sv.ownBlock=some b→A b)∧BIns A w s
def BIns(A:Nat→Prop)(w:World):List BlL→Prop
 | []=>True
 | b :: l=>BIn A w b∧BIns A w l
end
theorem bin_mk{A:Nat→Prop}{w:World}{k n:Int}{sv:Value}{s:List BlL}:BIn A w (.mk k n sv s)↔(GRow encBl 3 w sv s∧sv.oneCell'=true∧(∀ b,sv.ownBlock=some b→A b)∧BIns A w s):=by unfold BIn;exact Iff.rfl
theorem bins_nil{A:Nat→Prop}{w:World}:BIns A w []:=by unfold BIns;trivial
mutual
theorem BIn.mono{A A':Nat→Prop}{w w':World}(hA:∀ b,A b→A' b)(hr:∀(v:Value) (xs:List BlL),(∀ b,v.ownBlock=some b→A b)→GRow encBl 3 w v xs→GRow encBl 3 w' v xs):∀ x:BlL,BIn A w x→BIn A' w' x
 | .mk k n sv s,h=>by
  unfold BIn at h ⊢
  exact⟨hr sv s h.2.2.1 h.1,h.2.1,fun b hb=>hA b (h.2.2.1 b hb),BIns.mono hA hr s h.2.2.2⟩
theorem BIns.mono{A A':Nat→Prop}{w w':World}(hA:∀ b,A b→A' b)(hr:∀(v:Value) (xs:List BlL),(∀ b,v.ownBlock=some b→A b)→GRow encBl 3 w v xs→GRow encBl 3 w' v xs):∀ l:List BlL,BIns A w l→BIns A' w' l
 | [],_=>by unfold BIns;trivial
 | b :: l,h=>by
  unfold BIns at h ⊢
  exact⟨BIn.mono hA hr b h.1,BIns.mono hA hr l h.2⟩
end
theorem BIns.over{A:Nat→Prop}{w w':World}{l:List BlL}(h:BIns A w l)(hb:Below w.heap.size w w'):BIns A w' l:=BIns.mono (fun _ h=>h) (fun _ _ _ h=>h.over hb) l h
theorem BIn.over{A:Nat→Prop}{w w':World}{x:BlL}(h:BIn A w x)(hb:Below w.heap.size w w'):BIn A w' x:=BIn.mono (fun _ h=>h) (fun _ _ _ h=>h.over hb) x h
theorem bins_append{A:Nat→Prop}{w:World}:∀ {l m:List BlL},BIns A w l→BIns A w m→BIns A w (l++m)
 | [],m,_,h=>h
 | b :: l,m,h,h'=>by
  rw [List.cons_append]
  unfold BIns at h ⊢
  exact⟨h.1,bins_append h.2 h'⟩
theorem bins_one{A:Nat→Prop}{w:World}{x:BlL}(h:BIn A w x):BIns A w [x]:=by
 unfold BIns
 exact⟨h,by unfold BIns;trivial⟩
def lineL(i:Nat):BlL:=.mk 1 i (.slice none 0 0) []
theorem lineL_bare(i:Nat):bareB (lineL i)=lineB i:=by unfold lineL lineB bareB bareL;rfl
theorem lineL_in(A:Nat→Prop)(w:World)(i:Nat):BIn A w (lineL i):=by
 exact bin_mk.2 ⟨grow_nil w,rfl,fun b hb=>(by cases hb),bins_nil⟩
theorem lines_in(A:Nat→Prop)(w:World):∀ l:List Nat,BIns A w (l.map lineL)
 | []=>by rw [List.map_nil];unfold BIns;trivial
 | i :: l=>by
  rw [List.map_cons];unfold BIns
  exact⟨lineL_in A w i,lines_in A w l⟩
theorem lines_bare(l:List Nat):bareL (l.map lineL)=l.map lineB:=by
 rw [bareL_map,List.map_map]
 exact List.map_congr_left fun i _=>lineL_bare i
theorem slBlk:SlT Tryz.prog 78 147 3 40:=slT_of Tryz.underlying78 (by kernel_rfl) (by decide)
def SmRel(w:World)(l:List Nat)(v3 v8:Value)(wr:World):Prop:=∃ k:Nat,k≤l.length∧v8=.int .i64 k∧Hid (GOwn encBl 3 147 wr w.heap.size v3 ((l.take k).map lineL))∧Hid (Below w.heap.size w wr)
theorem sm_succ{l:List Nat}{k i:Nat}(h:l[k]? = some i):(l.take (k+1)).map lineL=(l.take k).map lineL++[lineL i]:=by rw [take_one h,List.map_append];rfl
set_option maxHeartbeats 8000000 in
set_option maxRecDepth 100000 in
theorem bsome_any(v:Value)(l:List Nat)(w:World)(hv:GRow encI 1 w v l)(hn:l.length≤1000000):Calls Tryz.prog 163 #[v] w (OwnRes encBl 3 147 w (l.map lineL)):=by
 obtain⟨a,cap,rfl,h1,h2,hc⟩:=irow_at hv
 unfold maxLen at h2
 have HC:=Lib.hid hc
 clear hv hc
 go_enter Tryz.func163,Tryz.ntmps163
 go_wp2_with fail
 go_loopw [3,8] (fun v3 v8 wr=>SmRel w l v3 v8 wr) (fun _ v8 _=>l.length - (intOf v8).toNat)
 case atStart=>exact⟨0,by omega,rfl,Lib.hid (gown_nil _ _),Below.refl _ _⟩
 case round =>
  obtain⟨k,hk,rfl,HM,hbl⟩:=hrel
  rename World=>wr
  by_cases hlt:k<l.length
  ·
   obtain⟨b,off,rfl,sb,hcb⟩:=HC.out.resolve_left (by omega)
   obtain⟨i,hi⟩:=get_of_lt hlt
   obtain⟨sx,x0⟩:=hcb k i hi _ hbl.out
   have HSu:=Lib.hid (sm_succ hi)
   have hN:((l.take k).map lineL).length+1≤1099511627776:=by rw [List.length_map,List.length_take];omega
   have hB3:=hbl.out.size
   clear hcb hi
   go_wp2_with (at_builtin;(first|refine wpList_append_newD slBlk rfl _ _ rfl w.heap.size _ _ (drawn_alloc_drewN _ _ _) 1 _ _ _ HM.out rfl rfl rfl rfl hN (by decide) hB3 ?_|refine wpList_append_newD slBlk rfl _ _ rfl w.heap.size _ _ (drawn_drew _) 1 _ _ _ HM.out rfl rfl rfl rfl hN (by decide) hB3 ?_|refine wpList_append_newD slBlk rfl _ _ rfl w.heap.size _ _ (drawn_drewN _ _) 1 _ _ _ HM.out rfl rfl rfl rfl hN (by decide) hB3 ?_|refine wpList_append_newD slBlk rfl _ _ rfl w.heap.size _ _ (drawn_refl _) 1 _ _ _ HM.out rfl rfl rfl rfl hN (by decide) hB3 ?_);intro v9 w9 ho9 hg9)
   go_roundw
   case rel=>exact⟨k+1,hlt,by go_num,(by show GOwn _ _ _ _ _ _ _;rw [HSu.out];exact GOwn.snoc ho9),below_grown hbl.out hB3 HM.out hg9⟩
   case measure=>simp [intOf];omega
  ·
   obtain rfl:k=l.length:=by omega
   have HE:=HM.out
   rw [List.take_length] at HE
   have HE2:=Lib.hid HE
   clear HE
   go_wp2_with fail
   go_ret
   exact⟨_,rfl,HE2.out,hbl.out⟩
end Go.Proofs.YtllcipobiengiaaGreat
namespace Go.Proofs.YtllcipobiengiaaGreat
open Go Go.RowKit

variable {R : List (Nat × Nat)} {l : List Nat}
/-- whether a place belongs to the side of a head below m -/
noncomputable def seenB(R:List (Nat × Nat))(l:List Nat)(m k:Nat):Bool:=(headsM R l m).any fun h=>nearD R l h k
theorem seenB_iff{m k:Nat}:seenB R l m k=true↔∃ h,h∈headsM R l m∧Near R l h k:=by
 unfold seenB
 rw [List.any_eq_true]
 exact⟨fun⟨h,h1,h2⟩=>⟨h,h1,nearD_iff.1 h2⟩,fun⟨h,h1,h2⟩=>⟨h,h1,nearD_iff.2 h2⟩⟩
theorem mem_heads{m h:Nat}:h∈headsM R l m↔h<m∧headB R l h=true:=by
 unfold headsM;rw [List.mem_filter,List.mem_range]
theorem least_near:∀(m k i:Nat),k≤m→Near R l k i→∃ h,h≤k∧headB R l h=true∧Near R l h i
 | 0,k,i,hk,hn=>⟨k,Nat.le_refl _,headB_iff.2 (fun q hq=>absurd hq (by omega)),hn⟩
 | m+1,k,i,hk,hn=>by
  cases hh:headB R l k with
  | true=>exact⟨k,Nat.le_refl _,hh,hn⟩
  | false =>
   have:¬ ∀ q,q<k→¬ Near R l q k:=fun h=>by rw [headB_iff.2 h] at hh;cases hh
   obtain⟨q,hq⟩:=Classical.not_forall.1 this
   obtain⟨hq1,hq2⟩:=Classical.not_imp.1 hq
   obtain⟨h,h1,h2,h3⟩:=least_near m q i (by omega) ((Classical.not_not.1 hq2).trans hn)
   exact⟨h,by omega,h2,h3⟩
/-- what was seen is no head; what was not is one -/
theorem seen_head{i:Nat}:seenB R l i i = !headB R l i:=by
 cases hh:headB R l i with
 | true =>
  have:seenB R l i i=false:=by
   rw [Bool.eq_false_iff]
   intro hs
   obtain⟨h,h1,h2⟩:=seenB_iff.1 hs
   exact headB_iff.1 hh h (mem_heads.1 h1).1 h2
  rw [this];rfl
 | false =>
  have:¬ ∀ q,q<i→¬ Near R l q i:=fun h=>by rw [headB_iff.2 h] at hh;cases hh
  obtain⟨q,hq⟩:=Classical.not_forall.1 this
  obtain⟨hq1,hq2⟩:=Classical.not_imp.1 hq
  obtain⟨h,h1,h2,h3⟩:=least_near q q i (Nat.le_refl _) (Classical.not_not.1 hq2)
  rw [seenB_iff.2 ⟨h,mem_heads.2 ⟨by omega,h2⟩,h3⟩];rfl
/-- what hangs together with a head was not seen before it -/
theorem head_new{i k:Nat}(hi:headB R l i=true)(hk:Near R l i k):seenB R l i k=false:=by
 rw [Bool.eq_false_iff]
 intro hs
 obtain⟨h,h1,h2⟩:=seenB_iff.1 hs
 exact headB_iff.1 hi h (mem_heads.1 h1).1 (h2.trans hk.symm)
theorem seen_next_no{i:Nat}(hi:headB R l i=false):seenB R l (i+1)=seenB R l i:=by
 funext k;unfold seenB;rw [heads_succ,hi];simp
theorem seen_next_yes{i:Nat}(hi:headB R l i=true)(k:Nat):seenB R l (i+1) k=(seenB R l i k || nearD R l i k):=by
 unfold seenB;rw [heads_succ,hi];simp
/-- a side on its way: the places found; the first at' of them were followed, the next one as far as place k -/
structure Sd (R:List (Nat × Nat)) (l:List Nat) (i at' k:Nat) (s:List Nat):Prop where
 nodup:s.Nodup
 near:∀ x∈s,Near R l i x
 self:i∈s
 done:∀ a x,a<at'→s[a]? = some x→∀ j,j<l.length→nearB R (l.getD x 0) (l.getD j 0)=true→j∈s
 cur:∀ x,s[at']? = some x→∀ j,j<k→nearB R (l.getD x 0) (l.getD j 0)=true→j∈s
theorem sd_start{i:Nat}(hi:i<l.length):Sd R l i 0 0 [i]:=
 ⟨List.nodup_cons.2 ⟨List.not_mem_nil,List.nodup_nil⟩,fun x hx=>by rw [List.mem_singleton.1 hx];exact .self hi,List.mem_singleton.2 rfl,fun a x ha=>absurd ha (by omega),fun x _ j hj=>absurd hj (by omega)⟩
theorem sd_yes{i at' k u:Nat}{s:List Nat}(h:Sd R l i at' k s)(hu:s[at']? = some u)(hn:nearB R (l.getD u 0) (l.getD k 0)=true)(hk:k<l.length)(hs:k ∉ s):Sd R l i at' (k+1) (s++[k]):=by
 have hat:=(List.getElem?_eq_some_iff.1 hu).1
 refine⟨List.nodup_append.2 ⟨h.nodup,List.nodup_cons.2 ⟨List.not_mem_nil,List.nodup_nil⟩,fun a ha b hb e=>hs (by rw [← List.mem_singleton.1 hb,← e];exact ha)⟩,fun x hx => ?_,List.mem_append_left _ h.self,fun a x ha hx j hj hn' => ?_,fun x hx j hj hn' => ?_⟩
 ·
  rcases List.mem_append.1 hx with hx|hx
  ·
   exact h.near x hx
  ·
   rw [List.mem_singleton.1 hx];exact .more (h.near u (List.mem_of_getElem? hu)) hk hn
 ·
  rw [List.getElem?_append_left (by omega)] at hx
  exact List.mem_append_left _ (h.done a x ha hx j hj hn')
 ·
  rw [List.getElem?_append_left hat] at hx
  rcases Nat.lt_or_ge j k with h1|h1
  ·
   exact List.mem_append_left _ (h.cur x hx j h1 hn')
  ·
   obtain rfl:j=k:=by omega
   exact List.mem_append_right _ (List.mem_singleton.2 rfl)
theorem sd_no{i at' k u:Nat}{s:List Nat}(h:Sd R l i at' k s)(hu:s[at']? = some u)(hn:nearB R (l.getD u 0) (l.getD k 0)=false∨k∈s):Sd R l i at' (k+1) s:=by
 refine⟨h.nodup,h.near,h.self,h.done,fun x hx j hj hn' => ?_⟩
 rcases Nat.lt_or_ge j k with h1|h1
 ·
  exact h.cur x hx j h1 hn'
 ·
  obtain rfl:j=k:=by omega
  rw [hu] at hx
  cases hx
  rcases hn with h2|h2
  ·
   rw [h2] at hn';cases hn'
  ·
   exact h2
theorem sd_next{i at':Nat}{s:List Nat}(h:Sd R l i at' l.length s):Sd R l i (at'+1) 0 s:=by
 refine⟨h.nodup,h.near,h.self,fun a x ha hx j hj hn => ?_,fun x _ j hj=>absurd hj (by omega)⟩
 rcases Nat.lt_or_ge a at' with h1|h1
 ·
  exact h.done a x h1 hx j hj hn
 ·
  obtain rfl:a=at':=by omega
  exact h.cur x hx j hj hn
theorem sd_end{i k:Nat}{s:List Nat}(h:Sd R l i s.length k s)(x:Nat):x∈s↔Near R l i x:=by
 refine⟨h.near x,fun hn => ?_⟩
 induction hn with
 | self _=>exact h.self
 | @more k j h1 h2 h3 ih =>
  obtain⟨a,ha⟩:=List.getElem?_of_mem ih
  exact h.done a k (List.getElem?_eq_some_iff.1 ha).1 ha j h2 h3
theorem sd_len{i at' k:Nat}{s:List Nat}(h:Sd R l i at' k s):s.length≤l.length:=by
 have:=nodup_lenN (m:=List.range l.length) h.nodup fun x hx=>List.mem_range.2 (h.near x hx).right
 rwa [List.length_range] at this
/-- marked so far: of the sides before, and what was found -/
noncomputable def markB(R:List (Nat × Nat))(l:List Nat)(i:Nat)(s:List Nat)(k:Nat):Bool:=seenB R l i k || s.contains k
theorem mark_end{i k:Nat}{s:List Nat}(hi:headB R l i=true)(h:Sd R l i s.length k s)(q:Nat):markB R l i s q=seenB R l (i+1) q:=by
 unfold markB
 rw [seen_next_yes hi]
 congr 1
 rw [Bool.eq_iff_iff,List.contains_iff_mem,nearD_iff,sd_end h]
theorem mark_snoc{i k:Nat}{s:List Nat}(q:Nat):markB R l i (s++[k]) q=if q=k then true else markB R l i s q:=by
 unfold markB
 by_cases h:q=k
 ·
  subst h;rw [if_pos rfl];simp
 ·
  rw [if_neg h]
  congr 1
  rw [Bool.eq_iff_iff,List.contains_iff_mem,List.contains_iff_mem,List.mem_append,List.mem_singleton]
  exact⟨fun e=>e.resolve_right h,.inl⟩
theorem mark_not{i at' k u q:Nat}{s:List Nat}(hi:headB R l i=true)(h:Sd R l i at' k s)(hu:s[at']? = some u)(hq:q<l.length)(hn:nearB R (l.getD u 0) (l.getD q 0)=true):markB R l i s q=s.contains q:=by
 unfold markB
 rw [head_new hi (.more (h.near u (List.mem_of_getElem? hu)) hq hn),Bool.false_or]
end Go.Proofs.YtllcipobiengiaaGreat
