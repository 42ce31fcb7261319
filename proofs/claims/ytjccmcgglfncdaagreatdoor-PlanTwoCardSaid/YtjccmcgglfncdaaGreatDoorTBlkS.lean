/- What is proved: PlanTwo, for every input; of the listed tables the walk needs the powers of ten. -/
import Derived.Test.YtjccmcgglfncdaaGreatDoorTEdV
set_option linter.unusedVariables false
set_option linter.unusedSimpArgs false
set_option maxRecDepth 100000
set_option maxHeartbeats 40000000
namespace Go.Proofs.YtjccmcgglfncdaaGreatDoor
open Go Go.RowKit
theorem pairsF_self(a:List ByteArray):∀ f i,a.length≤f+i→i≤a.length→pairsF a a f i i=(List.range (a.length - i)).map fun k=>(i+k,i+k)
 | 0,i,h,hi=>by rw [pairsF_end (by omega),show a.length - i=0 by omega];rfl
 | f+1,i,h,hi=>by
  rcases Nat.lt_or_ge i a.length with h1|h1
  · have hx:a[i]? = some a[i]:=List.getElem?_eq_getElem h1;rw [pairsF_eq hx hx rfl,pairsF_self a f (i+1) (by omega) (by omega),show a.length - i=a.length - (i+1)+1 by omega,List.range_succ_eq_map,List.map_cons,List.map_map];congr 1;refine List.map_congr_left fun k _ => ?_;show(i+1+k,i+1+k)=(i+(k+1),i+(k+1));rw [show i+1+k=i+(k+1) by omega]
  rw [pairsF_end (by omega),show a.length - i=0 by omega];rfl
theorem pairs_self(a:List ByteArray):pairs a a=(List.range a.length).map fun k=>(k,k):=by unfold pairs;rw [pairsF_self a _ 0 (by omega) (by omega)];refine List.map_congr_left fun k _ => ?_;rw [Nat.zero_add]
theorem adds_noE(l:List VertM)(file:VidM)(id:PidM)(from':Nat):∀(xs:List (Int × ByteArray)) (s:List OpM × List VidM),(∀ x∈xs,0≤x.1)→(xs.foldl (stepA l file id from') s).1=s.1
 | [],s,_=>rfl
 | x :: xs,s,h=>by rw [List.foldl_cons,adds_noE l file id from' xs _ fun y hy=>h y (List.mem_cons_of_mem _ hy)];unfold stepA;rw [if_pos (h x (List.mem_cons_self ..))]
section
variable{R:List (Nat × Nat)}{l:List Nat}{i j k:Nat}
inductive BlkM where
 | mk (kind num:Int) (subs:List BlkM)
def lineB(i:Nat):BlkM:=.mk 1 i []
noncomputable def cutB(R:List (Nat × Nat))(l:List Nat)(k:Nat):Bool:=(l.take k).all fun i=>(l.drop k).all fun j=>befB R i j
noncomputable def nearB(R:List (Nat × Nat))(i j:Nat):Bool:=leadB R i j || leadB R j i
theorem nearB_comm(R:List (Nat × Nat))(i j:Nat):nearB R i j=nearB R j i:=Bool.or_comm ..
inductive Near (R:List (Nat × Nat)) (l:List Nat):Nat→Nat→Prop
 | self {i:Nat}:i<l.length→Near R l i i
 | more {i k j:Nat}:Near R l i k→j<l.length→nearB R (l.getD k 0) (l.getD j 0)=true→Near R l i j
theorem Near.right(h:Near R l i j):j<l.length:=by
 cases h with
 | self h=>exact h
 | more _ h _=>exact h
theorem Near.trans(h:Near R l i k)(h':Near R l k j):Near R l i j:=by
 induction h' with
 | self _=>exact h
 | more _ h2 h3 ih=>exact .more ih h2 h3
theorem Near.symm(h:Near R l i j):Near R l j i:=by
 induction h with
 | self h=>exact .self h
 | @more k j h1 h2 h3 ih =>have:Near R l j k:=.more (.self h2) h1.right (by rw [nearB_comm];exact h3);exact this.trans ih
open Classical in
noncomputable def nearD(R:List (Nat × Nat))(l:List Nat)(i j:Nat):Bool:=decide (Near R l i j)
theorem nearD_iff:nearD R l i j=true↔Near R l i j:=by unfold nearD;simp
noncomputable def sideM(R:List (Nat × Nat))(l:List Nat)(i:Nat):List Nat:=(List.range l.length).filter (nearD R l i)
theorem mem_sideM:k∈sideM R l i↔Near R l i k:=by unfold sideM;rw [List.mem_filter,List.mem_range,nearD_iff];exact⟨And.right,fun h=>⟨h.right,h⟩⟩
noncomputable def headB(R:List (Nat × Nat))(l:List Nat)(i:Nat):Bool:=(List.range i).all fun k => !nearD R l k i
noncomputable def headsM(R:List (Nat × Nat))(l:List Nat)(n:Nat):List Nat:=(List.range n).filter (headB R l)
noncomputable def sidesM(R:List (Nat × Nat))(l:List Nat):List (List Nat):=(headsM R l l.length).map (sideM R l)
theorem headB_iff:headB R l i=true↔∀ k,k<i→¬ Near R l k i:=by
 unfold headB;rw [List.all_eq_true];exact⟨fun h k hk hn=>by have:=h k (List.mem_range.2 hk);rw [nearD_iff.2 hn] at this;exact absurd this (by decide),fun h k hk=>by
  have:=h k (List.mem_range.1 hk);cases e:nearD R l k i with
  | false=>rfl
  | true=>exact absurd (nearD_iff.1 e) this⟩
theorem heads_succ(R:List (Nat × Nat))(l:List Nat)(n:Nat):headsM R l (n+1)=headsM R l n++if headB R l n=true then [n] else []:=by unfold headsM;rw [List.range_succ,List.filter_append];cases h:headB R l n <;> simp [h]
noncomputable def piecesTo(R:List (Nat × Nat))(l:List Nat):Nat→List (List Nat) × Nat
 | 0=>([],0)
 | k+1=>let s:=piecesTo R l k;if k+1=l.length∨cutB R l (k+1)=true then(s.1++[(l.take (k+1)).drop s.2],k+1) else s
noncomputable def piecesM(R:List (Nat × Nat))(l:List Nat):List (List Nat):=(piecesTo R l l.length).1
theorem pieces_at(R:List (Nat × Nat))(l:List Nat):∀ k,(piecesTo R l k).2≤k
 | 0=>Nat.le_refl _
 | k+1=>by
  have:=pieces_at R l k;unfold piecesTo;simp only;split
  · exact Nat.le_refl _
  omega
noncomputable def thingsM(l:List Nat)(s:List Nat):List Nat:=s.map fun k=>l.getD k 0
noncomputable def pieceM(R:List (Nat × Nat))(ofF:List Nat→List BlkM)(l:List Nat):BlkM:=
 if l.length=1 then lineB (l.getD 0 0) else if(sidesM R l).length=1 then .mk 3 0 (l.map lineB) else .mk 2 0 ((sidesM R l).map fun s=>.mk 4 0 (ofF (thingsM l s)))
noncomputable def blkM(R:List (Nat × Nat)):Nat→List Nat→List BlkM
 | 0,_=>[]
 | f+1,l=>(piecesM R l).map (pieceM R (blkM R f))
theorem side_few:(sideM R l i).length≤l.length:=by unfold sideM;exact Nat.le_trans (List.length_filter_le _ _) (by rw [List.length_range];exact Nat.le_refl _)
theorem side_all(h:(sideM R l i).length=l.length)(hk:k<l.length):Near R l i k:=by unfold sideM at h;have h2:(List.range l.length).filter (nearD R l i)=List.range l.length:=(List.filter_sublist ..).eq_of_length (by rw [h,List.length_range]);have:=List.filter_eq_self.1 h2 k (List.mem_range.2 hk);exact nearD_iff.1 this
theorem sides_less(h:(sidesM R l).length≠1){s:List Nat}(hs:s∈sidesM R l):s.length<l.length:=by
 unfold sidesM at hs h;obtain⟨i,hi,rfl⟩:=List.mem_map.1 hs;rw [List.length_map] at h;unfold headsM at hi h;obtain⟨hi1,hi2⟩:=List.mem_filter.1 hi;have hi1:=List.mem_range.1 hi1;refine Nat.lt_of_le_of_ne side_few fun e=>h ?_;have h0:i=0:=by
  rcases Nat.eq_zero_or_pos i with h0|h0
  · exact h0
  exact absurd (side_all e (by omega:0<l.length)).symm (headB_iff.1 hi2 0 h0)
 subst h0;have:(List.range l.length).filter (headB R l)=[0]:=by
  have hm:∀ k,k∈(List.range l.length).filter (headB R l)↔k=0:=by
   intro k;rw [List.mem_filter,List.mem_range];constructor
   ·
    rintro⟨hk,hb⟩;rcases Nat.eq_zero_or_pos k with h0|h0
    · exact h0
    exact absurd (side_all e hk) (headB_iff.1 hb 0 h0)
   rintro rfl;exact⟨hi1,hi2⟩
  have hp:((List.range l.length).filter (headB R l)).Pairwise (· < ·):=(List.pairwise_lt_range).filter _
  match hq:(List.range l.length).filter (headB R l) with
  | []=>have:=(hm 0).2 rfl;rw [hq] at this;exact absurd this (List.not_mem_nil)
  | [x]=>rw [(hm x).1 (by rw [hq];exact List.mem_singleton.2 rfl)]
  | x :: y :: r =>have h1:=(hm x).1 (by rw [hq];exact List.mem_cons_self ..);have h2:=(hm y).1 (by rw [hq];exact List.mem_cons_of_mem _ (List.mem_cons_self ..));rw [hq,h1,h2] at hp;exact absurd ((List.pairwise_cons.1 hp).1 0 (List.mem_cons_self ..)) (Nat.lt_irrefl 0)
 rw [this];rfl
end
variable{R:List (Nat × Nat)}{l:List Nat}{n:Nat}
def CtRel(R:List (Nat × Nat))(l:List Nat)(n:Nat)(w:World)(v:Value)(wr:World):Prop:=∃ k:Nat,k≤n∧v=.int .i64 k∧Hid (∀ i x:Nat,i<k→l[i]? = some x→∀ y∈l.drop n,befB R x y=true)∧wr=w
def Ct2Rel(R:List (Nat × Nat))(l:List Nat)(n x:Nat)(w:World)(v:Value)(wr:World):Prop:=∃ k:Nat,k≤l.length - n∧v=.int .i64 k∧Hid (∀ j y:Nat,j<k→l[n+j]? = some y→befB R x y=true)∧wr=w
theorem cut_yes(hn:n≤l.length)(h:∀ i x:Nat,i<n→l[i]? = some x→∀ y∈l.drop n,befB R x y=true):cutB R l n=true:=by unfold cutB;rw [List.all_eq_true];intro x hx;obtain⟨i,hi⟩:=List.getElem?_of_mem hx;have hi1:=(List.getElem?_eq_some_iff.1 hi).1;rw [List.length_take] at hi1;rw [List.getElem?_take,if_pos (by omega)] at hi;rw [List.all_eq_true];exact h i x (by omega) hi
theorem cut_no{i j x y:Nat}(hi:i<n)(hx:l[i]? = some x)(hy:l[n+j]? = some y)(h:befB R x y=false):cutB R l n=false:=by unfold cutB;rw [List.all_eq_false];refine⟨x,List.mem_of_getElem? (i:=i) (by rw [List.getElem?_take,if_pos hi];exact hx),?_⟩;rw [Bool.not_eq_true,List.all_eq_false];exact⟨y,List.mem_of_getElem? (i:=j) (by rw [List.getElem?_drop];exact hy),by rw [h];decide⟩
theorem ct_next{k x:Nat}(h:∀ i x:Nat,i<k→l[i]? = some x→∀ y∈l.drop n,befB R x y=true)(hx:l[k]? = some x)(h2:∀ j y:Nat,j<l.length - n→l[n+j]? = some y→befB R x y=true) :
  ∀ i x:Nat,i<k+1→l[i]? = some x→∀ y∈l.drop n,befB R x y=true:=by
 intro i z hi hz y hy;rcases Nat.lt_or_ge i k with h1|h1
 · exact h i z h1 hz y hy
 obtain rfl:i=k:=by omega
 rw [hx] at hz;cases hz
 obtain⟨j,hj⟩:=List.getElem?_of_mem hy;have hj1:=(List.getElem?_eq_some_iff.1 hj).1;rw [List.length_drop] at hj1;rw [List.getElem?_drop] at hj;exact h2 j y hj1 hj
attribute [local irreducible] cutB befB
theorem bcut_any(r n:Nat)(R:List (Nat × Nat))(v:Value)(l:List Nat)(k:Nat)(w:World)(h:RelAt w r n R)(hv:GRow encI 1 w v l)(hl:∀ i∈l,i≤1000000)(hk:k<l.length) :
  Calls Tryz.prog 186 #[.pointer (some ⟨r,0,none⟩),v,.int .i64 k] w fun e w'=>e=.returned (.bool (cutB R l k))∧w'=w:=by
 obtain⟨a,cap,rfl,h1,h2,hc⟩:=irow_at hv;unfold maxLen at h2;obtain⟨b,off,rfl,sb,hcb⟩:=hc.resolve_left (by omega);have HC:=Lh hcb;have HR:=Lh h;have HL:=Lh hl;clear hv hcb h hl hc;go_enter Tryz.func186,Tryz.ntmps186;go_wp2;go_loopw [15] (fun v15 wr=>CtRel R l k w v15 wr) (fun v15 _=>k - (intOf v15).toNat)
 case atStart=>exact⟨0,by omega,rfl,Lh (fun i x hi=>absurd hi (by omega)),rfl⟩
 obtain⟨i,hi,rfl,HK,hw⟩:=hrel;obtain rfl:=hw.symm
 by_cases hlt:i<k
 rotate_left
 ·
  obtain rfl:i=k:=by omega
  have HN:=Lh (cut_yes (by omega) HK.o);go_wp2;go_ret;exact⟨rvb HN.o,rfl⟩
 obtain⟨x,hx⟩:=gol (xs:=l) (i:=i) (by omega);have x0:=(HC.o i x hx _ (Below.refl _ _)).2;have HX:=Lh hx;have hxl:=HL.o x (List.mem_of_getElem? hx);clear hx;go_wp2;go_loopw [23] (fun v23 wr=>Ct2Rel R l k x w v23 wr) (fun v23 _=>l.length - k - (intOf v23).toNat)
 case atStart=>exact⟨0,by omega,rfl,Lh (fun i x hi=>absurd hi (by omega)),rfl⟩
 obtain⟨j,hj,rfl,HJ,hw⟩:=hrel;obtain rfl:=hw.symm
 by_cases hlt2:j<l.length - k
 rotate_left
 ·
  obtain rfl:j=l.length - k:=by omega
  have HK2:=Lh (ct_next HK.o HX.o HJ.o);go_wp2;go_roundw
  case rel=>exact⟨i+1,by omega,by go_num,HK2,(by first|exact rfl|trivial)⟩
  simp [intOf];omega
 obtain⟨y,hy⟩:=gol (xs:=l) (i:=k+j) (by omega);have y0:=(HC.o (k+j) y hy _ (Below.refl _ _)).2;have HY:=Lh hy;have hyl:=HL.o y (List.mem_of_getElem? hy);have y1:w.cell? ⟨b,off+k+j,none⟩=some (.int .i64 y):=by rw [Nat.add_assoc];exact y0
 clear hy y0;cases hf:befB R x y with
 | true =>
  have HF:=Lh hf;have HJ2:Hid (∀ i z:Nat,i<j+1→l[k+i]? = some z→befB R x z=true):=Lh fun i z hi hz=>by
   rcases Nat.lt_or_ge i j with h1|h1
   · exact HJ.o i z h1 hz
   obtain rfl:i=j:=(by omega);rw [HY.o] at hz;cases hz;exact HF.o
  clear hf;go_wp2_with fail;refine(rchBefore_any r n x y R _ HR.o hxl hyl).mono ?_;rw [HF.o];rintro e w1 ⟨rfl,hw⟩;obtain rfl:=hw.symm;go_wp2;go_roundw
  case rel=>exact⟨j+1,by omega,by go_num,HJ2,(by first|exact rfl|trivial)⟩
  simp [intOf];omega
 | false =>have HF:=Lh hf;have HN:=Lh (cut_no hlt HX.o HY.o hf);clear hf;go_wp2_with fail;refine(rchBefore_any r n x y R _ HR.o hxl hyl).mono ?_;rw [HF.o];rintro e w1 ⟨rfl,hw⟩;obtain rfl:=hw.symm;go_wp2;go_ret;exact⟨rvb HN.o,rfl⟩
end Go.Proofs.YtjccmcgglfncdaaGreatDoor
set_option maxRecDepth 100000
set_option maxHeartbeats 40000000
namespace Go.Proofs.YtjccmcgglfncdaaGreatDoor
open Go Go.RowKit
variable{A:Nat→Prop}{w w':World}
inductive BlL where
 | mk (kind num:Int) (sv:Value) (subs:List BlL)
def encBl:BlL→List Value
 | .mk k n sv _=>[.int .i64 k,.int .i64 n,sv]
theorem encBl_len(x:BlL):(encBl x).length=3:=by cases x;rfl
mutual
def bareB:BlL→BlkM
 | .mk k n _ s=>.mk k n (bareL s)
def bareL:List BlL→List BlkM
 | []=>[]
 | b :: l=>bareB b :: bareL l
end
theorem bareL_map:∀ l:List BlL,bareL l=l.map bareB
 | []=>by unfold bareL;rfl
 | b :: l=>by unfold bareL;rw [bareL_map l];rfl
mutual
def BIn(A:Nat→Prop)(w:World):BlL→Prop
 | .mk _ _ sv s=>GRow encBl 3 w sv s∧sv.oneCell'=true∧(∀ b,sv.ownBlock=some b→A b)∧BIns A w s
def BIns(A:Nat→Prop)(w:World):List BlL→Prop
 | []=>True
 | b :: l=>BIn A w b∧BIns A w l
end
theorem bin_mk{k n:Int}{sv:Value}{s:List BlL}:BIn A w (.mk k n sv s)↔(GRow encBl 3 w sv s∧sv.oneCell'=true∧(∀ b,sv.ownBlock=some b→A b)∧BIns A w s):=by unfold BIn;exact Iff.rfl
theorem bins_nil:BIns A w []:=by unfold BIns;trivial
mutual
theorem BIn.mono{A':Nat→Prop}(hA:∀ b,A b→A' b)(hr:∀(v:Value) (xs:List BlL),(∀ b,v.ownBlock=some b→A b)→GRow encBl 3 w v xs→GRow encBl 3 w' v xs):∀ x:BlL,BIn A w x→BIn A' w' x
 | .mk k n sv s,h=>by unfold BIn at h ⊢;exact⟨hr sv s h.2.2.1 h.1,h.2.1,fun b hb=>hA b (h.2.2.1 b hb),BIns.mono hA hr s h.2.2.2⟩
theorem BIns.mono{A':Nat→Prop}(hA:∀ b,A b→A' b)(hr:∀(v:Value) (xs:List BlL),(∀ b,v.ownBlock=some b→A b)→GRow encBl 3 w v xs→GRow encBl 3 w' v xs):∀ l:List BlL,BIns A w l→BIns A' w' l
 | [],_=>by unfold BIns;trivial
 | b :: l,h=>by unfold BIns at h ⊢;exact⟨BIn.mono hA hr b h.1,BIns.mono hA hr l h.2⟩
end
theorem BIns.over{l:List BlL}(h:BIns A w l)(hb:Be w w'):BIns A w' l:=BIns.mono (fun _ h=>h) (fun _ _ _ h=>h.over hb) l h
theorem BIn.over{x:BlL}(h:BIn A w x)(hb:Be w w'):BIn A w' x:=BIn.mono (fun _ h=>h) (fun _ _ _ h=>h.over hb) x h
theorem bins_append:∀ {l m:List BlL},BIns A w l→BIns A w m→BIns A w (l++m)
 | [],m,_,h=>h
 | b :: l,m,h,h'=>by rw [List.cons_append];unfold BIns at h ⊢;exact⟨h.1,bins_append h.2 h'⟩
theorem bins_one{x:BlL}(h:BIn A w x):BIns A w [x]:=by unfold BIns;exact⟨h,by unfold BIns;trivial⟩
def lineL(i:Nat):BlL:=.mk 1 i (.slice none 0 0) []
theorem lineL_bare(i:Nat):bareB (lineL i)=lineB i:=by unfold lineL lineB bareB bareL;rfl
theorem lineL_in(A:Nat→Prop)(w:World)(i:Nat):BIn A w (lineL i):=by exact bin_mk.2 ⟨grow_nil w,rfl,fun b hb=>(by cases hb),bins_nil⟩
theorem lines_in(A:Nat→Prop)(w:World):∀ l:List Nat,BIns A w (l.map lineL)
 | []=>by rw [List.map_nil];unfold BIns;trivial
 | i :: l=>by rw [List.map_cons];unfold BIns;exact⟨lineL_in A w i,lines_in A w l⟩
theorem lines_bare(l:List Nat):bareL (l.map lineL)=l.map lineB:=by rw [bareL_map,List.map_map];exact List.map_congr_left fun i _=>lineL_bare i
theorem slBlk:SlT Tryz.prog 189 251 3 40:=slT_of Tryz.underlying189 (by kernel_rfl) (by decide)
def SmRel(w:World)(l:List Nat)(v3 v8:Value)(wr:World):Prop:=∃ k:Nat,k≤l.length∧v8=.int .i64 k∧Hid (GOwn encBl 3 251 wr w.heap.size v3 ((l.take k).map lineL))∧Hid (Be w wr)
theorem sm_succ{l:List Nat}{k i:Nat}(h:l[k]? = some i):(l.take (k+1)).map lineL=(l.take k).map lineL++[lineL i]:=by rw [take_one h,List.map_append];rfl
theorem bsome_any(v:Value)(l:List Nat)(w:World)(hv:GRow encI 1 w v l)(hn:l.length≤1000000):Calls Tryz.prog 248 #[v] w (OwnRes encBl 3 251 w (l.map lineL)):=by
 obtain⟨a,cap,rfl,h1,h2,hc⟩:=irow_at hv;unfold maxLen at h2;have HC:=Lh hc;clear hv hc;go_enter Tryz.func248,Tryz.ntmps248;go_wp2;go_loopw [3,8] (fun v3 v8 wr=>SmRel w l v3 v8 wr) (fun _ v8 _=>l.length - (intOf v8).toNat)
 case atStart=>exact⟨0,by omega,rfl,Lh (gown_nil _ _),Below.refl _ _⟩
 obtain⟨k,hk,rfl,HM,hbl⟩:=hrel;rename World=>wr
 by_cases hlt:k<l.length
 ·
  obtain⟨b,off,rfl,sb,hcb⟩:=HC.o.resolve_left (by omega);obtain⟨i,hi⟩:=gol hlt;obtain⟨sx,x0⟩:=hcb k i hi _ hbl.o;have HSu:=Lh (sm_succ hi);have hN:((l.take k).map lineL).length+1≤1099511627776:=by rw [List.length_map,List.length_take];omega
  have hB3:=hbl.o.size;clear hcb hi;go_wp2_with (at_builtin;refine apD slBlk rfl _ _ rfl w.heap.size _ _ (drf _) 1 _ _ _ HM.o rfl rfl rfl rfl hN (by decide) hB3 ?_;intro v9 w9 ho9 hg9);go_roundw
  case rel=>exact⟨k+1,hlt,by go_num,(by show GOwn _ _ _ _ _ _ _;rw [HSu.o];exact GOwn.snoc ho9),bgr hbl.o hB3 HM.o hg9⟩
  simp [intOf];omega
 obtain rfl:k=l.length:=by omega
 have HE:=HM.o;rw [List.take_length] at HE;have HE2:=Lh HE;clear HE;go_wp2;go_ret;exact⟨_,rfl,HE2.o,hbl.o⟩
end Go.Proofs.YtjccmcgglfncdaaGreatDoor
namespace Go.Proofs.YtjccmcgglfncdaaGreatDoor
open Go Go.RowKit
variable{s:List Nat}{at' i k u:Nat}
variable {R : List (Nat × Nat)} {l : List Nat}
noncomputable def seenB(R:List (Nat × Nat))(l:List Nat)(m k:Nat):Bool:=(headsM R l m).any fun h=>nearD R l h k
theorem seenB_iff{m:Nat}:seenB R l m k=true↔∃ h,h∈headsM R l m∧Near R l h k:=by unfold seenB;rw [List.any_eq_true];exact⟨fun⟨h,h1,h2⟩=>⟨h,h1,nearD_iff.1 h2⟩,fun⟨h,h1,h2⟩=>⟨h,h1,nearD_iff.2 h2⟩⟩
theorem mem_heads{m h:Nat}:h∈headsM R l m↔h<m∧headB R l h=true:=by unfold headsM;rw [List.mem_filter,List.mem_range]
theorem least_near:∀(m k i:Nat),k≤m→Near R l k i→∃ h,h≤k∧headB R l h=true∧Near R l h i
 | 0,k,i,hk,hn=>⟨k,Nat.le_refl _,headB_iff.2 (fun q hq=>absurd hq (by omega)),hn⟩
 | m+1,k,i,hk,hn=>by
  cases hh:headB R l k with
  | true=>exact⟨k,Nat.le_refl _,hh,hn⟩
  | false =>
   have:¬ ∀ q,q<k→¬ Near R l q k:=fun h=>by rw [headB_iff.2 h] at hh;cases hh
   obtain⟨q,hq⟩:=Classical.not_forall.1 this;obtain⟨hq1,hq2⟩:=Classical.not_imp.1 hq;obtain⟨h,h1,h2,h3⟩:=least_near m q i (by omega) ((Classical.not_not.1 hq2).trans hn);exact⟨h,by omega,h2,h3⟩
theorem seen_head:seenB R l i i = !headB R l i:=by
 cases hh:headB R l i with
 | true =>
  have:seenB R l i i=false:=by rw [Bool.eq_false_iff];intro hs;obtain⟨h,h1,h2⟩:=seenB_iff.1 hs;exact headB_iff.1 hh h (mem_heads.1 h1).1 h2
  rw [this];rfl
 | false =>
  have:¬ ∀ q,q<i→¬ Near R l q i:=fun h=>by rw [headB_iff.2 h] at hh;cases hh
  obtain⟨q,hq⟩:=Classical.not_forall.1 this;obtain⟨hq1,hq2⟩:=Classical.not_imp.1 hq;obtain⟨h,h1,h2,h3⟩:=least_near q q i (Nat.le_refl _) (Classical.not_not.1 hq2);rw [seenB_iff.2 ⟨h,mem_heads.2 ⟨by omega,h2⟩,h3⟩];rfl
theorem head_new(hi:headB R l i=true)(hk:Near R l i k):seenB R l i k=false:=by rw [Bool.eq_false_iff];intro hs;obtain⟨h,h1,h2⟩:=seenB_iff.1 hs;exact headB_iff.1 hi h (mem_heads.1 h1).1 (h2.trans hk.symm)
theorem seen_next_no(hi:headB R l i=false):seenB R l (i+1)=seenB R l i:=by funext k;unfold seenB;rw [heads_succ,hi];simp
theorem seen_next_yes(hi:headB R l i=true)(k:Nat):seenB R l (i+1) k=(seenB R l i k || nearD R l i k):=by unfold seenB;rw [heads_succ,hi];simp
structure Sd (R:List (Nat × Nat)) (l:List Nat) (i at' k:Nat) (s:List Nat):Prop where
 nodup:s.Nodup
 near:∀ x∈s,Near R l i x
 self:i∈s
 done:∀ a x,a<at'→s[a]? = some x→∀ j,j<l.length→nearB R (l.getD x 0) (l.getD j 0)=true→j∈s
 cur:∀ x,s[at']? = some x→∀ j,j<k→nearB R (l.getD x 0) (l.getD j 0)=true→j∈s
theorem sd_start(hi:i<l.length):Sd R l i 0 0 [i]:=
 ⟨List.nodup_cons.2 ⟨List.not_mem_nil,List.nodup_nil⟩,fun x hx=>by rw [List.mem_singleton.1 hx];exact .self hi,List.mem_singleton.2 rfl,fun a x ha=>absurd ha (by omega),fun x _ j hj=>absurd hj (by omega)⟩
theorem sd_yes(h:Sd R l i at' k s)(hu:s[at']? = some u)(hn:nearB R (l.getD u 0) (l.getD k 0)=true)(hk:k<l.length)(hs:k ∉ s):Sd R l i at' (k+1) (s++[k]):=by
 have hat:=(List.getElem?_eq_some_iff.1 hu).1;refine⟨List.nodup_append.2 ⟨h.nodup,List.nodup_cons.2 ⟨List.not_mem_nil,List.nodup_nil⟩,fun a ha b hb e=>hs (by rw [← List.mem_singleton.1 hb,← e];exact ha)⟩,fun x hx => ?_,List.mem_append_left _ h.self,fun a x ha hx j hj hn' => ?_,fun x hx j hj hn' => ?_⟩
 ·
  rcases List.mem_append.1 hx with hx|hx
  · exact h.near x hx
  rw [List.mem_singleton.1 hx];exact .more (h.near u (List.mem_of_getElem? hu)) hk hn
 · rw [List.getElem?_append_left (by omega)] at hx;exact List.mem_append_left _ (h.done a x ha hx j hj hn')
 rw [List.getElem?_append_left hat] at hx;rcases Nat.lt_or_ge j k with h1|h1
 · exact List.mem_append_left _ (h.cur x hx j h1 hn')
 obtain rfl:j=k:=by omega
 exact List.mem_append_right _ (List.mem_singleton.2 rfl)
theorem sd_no(h:Sd R l i at' k s)(hu:s[at']? = some u)(hn:nearB R (l.getD u 0) (l.getD k 0)=false∨k∈s):Sd R l i at' (k+1) s:=by
 refine⟨h.nodup,h.near,h.self,h.done,fun x hx j hj hn' => ?_⟩;rcases Nat.lt_or_ge j k with h1|h1
 · exact h.cur x hx j h1 hn'
 obtain rfl:j=k:=by omega
 rw [hu] at hx;cases hx
 rcases hn with h2|h2
 · rw [h2] at hn';cases hn'
 exact h2
theorem sd_next(h:Sd R l i at' l.length s):Sd R l i (at'+1) 0 s:=by
 refine⟨h.nodup,h.near,h.self,fun a x ha hx j hj hn => ?_,fun x _ j hj=>absurd hj (by omega)⟩;rcases Nat.lt_or_ge a at' with h1|h1
 · exact h.done a x h1 hx j hj hn
 obtain rfl:a=at':=by omega
 exact h.cur x hx j hj hn
theorem sd_end(h:Sd R l i s.length k s)(x:Nat):x∈s↔Near R l i x:=by
 refine⟨h.near x,fun hn => ?_⟩;induction hn with
 | self _=>exact h.self
 | @more k j h1 h2 h3 ih =>obtain⟨a,ha⟩:=List.getElem?_of_mem ih;exact h.done a k (List.getElem?_eq_some_iff.1 ha).1 ha j h2 h3
theorem sd_len(h:Sd R l i at' k s):s.length≤l.length:=by
 have:=nodup_lenN (m:=List.range l.length) h.nodup fun x hx=>List.mem_range.2 (h.near x hx).right
 rwa [List.length_range] at this
noncomputable def markB(R:List (Nat × Nat))(l:List Nat)(i:Nat)(s:List Nat)(k:Nat):Bool:=seenB R l i k || s.contains k
theorem mark_end(hi:headB R l i=true)(h:Sd R l i s.length k s)(q:Nat):markB R l i s q=seenB R l (i+1) q:=by unfold markB;rw [seen_next_yes hi];congr 1;rw [Bool.eq_iff_iff,List.contains_iff_mem,nearD_iff,sd_end h]
theorem mark_snoc(q:Nat):markB R l i (s++[k]) q=if q=k then true else markB R l i s q:=by
 unfold markB
 by_cases h:q=k
 · subst h;rw [if_pos rfl];simp
 rw [if_neg h];congr 1;rw [Bool.eq_iff_iff,List.contains_iff_mem,List.contains_iff_mem,List.mem_append,List.mem_singleton];exact⟨fun e=>e.resolve_right h,.inl⟩
theorem mark_not{q:Nat}(hi:headB R l i=true)(h:Sd R l i at' k s)(hu:s[at']? = some u)(hq:q<l.length)(hn:nearB R (l.getD u 0) (l.getD q 0)=true):markB R l i s q=s.contains q:=by unfold markB;rw [head_new hi (.more (h.near u (List.mem_of_getElem? hu)) hq hn),Bool.false_or]
end Go.Proofs.YtjccmcgglfncdaaGreatDoor
