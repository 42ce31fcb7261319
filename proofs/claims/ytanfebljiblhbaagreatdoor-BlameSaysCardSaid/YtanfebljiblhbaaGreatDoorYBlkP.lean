/- Part of the proof that of any graph each file's lines, whose they are, and how many lines any author has, are as the document says. No conditions. -/
import Derived.Test.YtanfebljiblhbaaGreatDoorYRchP
import Derived.Test.YtanfebljiblhbaaGreatDoorYEdiQ
set_option linter.unusedVariables false
set_option linter.unusedSimpArgs false
set_option maxRecDepth 100000
set_option maxHeartbeats 40000000
namespace Go.Proofs.YtanfebljiblhbaaGreatDoor
open Go Go.RowKit
section
variable{R:List (Nat × Nat)}{i j n:Nat}
open Classical in
noncomputable def leadB(R:List (Nat × Nat))(i j:Nat):Bool:=decide (Lead R i j)
theorem leadB_iff:leadB R i j=true↔Lead R i j:=by unfold leadB;simp
theorem leadB_no:leadB R i j=false↔¬ Lead R i j:=by unfold leadB;simp
theorem befB_eq(R:List (Nat × Nat))(i j:Nat):befB R i j=(leadB R i j && !leadB R j i):=by rw [Bool.eq_iff_iff,befB_iff,Bool.and_eq_true,leadB_iff,Bool.not_eq_true',leadB_no];exact Iff.rfl
theorem rchFits_any(i n:Nat)(w:World):Calls Tryz.prog 128 #[.int .i64 i,.int .i64 n] w fun e w'=>e=.returned (.bool (decide (i<n)))∧w'=w:=by go_enter Tryz.func128,Tryz.ntmps128;go_wp2;go_ret;exact⟨rvl (congrArg Value.bool (by simp)),rfl⟩
theorem RelAt.arr{w:World}{r:Nat}(h:RelAt w r n R):∃ m,Arr w r [.int .i64 n,.map (some m)]:=by obtain⟨_,_,m,N,base,FS,B,hw,_⟩:=h;exact⟨m,hw.arr⟩
theorem rchLen_any(r n:Nat)(R:List (Nat × Nat))(w:World)(h:RelAt w r n R):Calls Tryz.prog 134 #[.pointer (some ⟨r,0,none⟩)] w fun e w'=>e=.returned (.int .i64 n)∧w'=w:=by obtain⟨m,hA⟩:=h.arr;obtain⟨h0,hl⟩:=hA.c1;clear h hA;go_enter Tryz.func134,Tryz.ntmps134;go_wp2;go_ret;exact⟨rfl,rfl⟩
structure RelLook (w:World) (r n m N:Nat) (R:List (Nat × Nat)) (i:Nat) (f:Int→Option (Option Nat)) (x:Option Nat):Prop where
 arr:Arr w r [.int .i64 n,.map (some m)]
 map:TMap Tryz.prog 3 numV okInt ptrV w m N f
 eq:ptrV ((f (i:Int)).getD none)=ptrV x
 has:∀ j:Nat,Calls Tryz.prog 131 #[ptrV x,.int .i64 j] w fun e w'=>e=.returned (.bool (leadB R i j))∧w'=w
 next:∀ f:Nat,f≤1000000→Calls Tryz.prog 192 #[ptrV x,.int .i64 f] w fun e w'=>∃ y:Int,e=.returned (.int .i64 y)∧NextP (leadB R i) n f y∧w'=w
theorem has_lead{ws:List Nat}(hR:∀ s∈R,s.1<n∧s.2<n)(h:∀ j,bitW ws j=true↔Lead R i j):hasS n ws j=leadB R i j:=by unfold hasS;rw [Bool.eq_iff_iff,leadB_iff,Bool.and_eq_true,h,decide_eq_true_iff];exact⟨And.right,fun q=>⟨(q.lt hR).2,q⟩⟩
theorem bits_lead{ws:List Nat}(h:∀ j,bitW ws j=true↔Lead R i j):bitW ws=leadB R i:=funext fun j=>by rw [Bool.eq_iff_iff,leadB_iff,h]
theorem none_lead{FS:List Nat}(hF:∀ i:Nat,i∈FS↔∃ j,(i,j)∈R)(h:i ∉ FS):leadB R i j=false:=leadB_no.2 fun q=>h ((hF i).2 q.from')
theorem RelAt.look{w:World}{r:Nat}(h:RelAt w r n R)(i:Nat):∃ m N f x,RelLook w r n m N R i f x:=by
 obtain⟨hn,hR,m,N,base,FS,B,hw,hF⟩:=h
 by_cases hi:i∈FS
 ·
  obtain⟨ws,hs,hk,hb⟩:=hw.sets i hi;refine⟨m,N,_,some (B i).1,hw.arr,hw.map,hw.look hi,fun j => ?_,fun f hf => ?_⟩
  · have:=mhas_any (B i).1 (B i).2 n j ws w hs hk;rw [has_lead hR hb] at this;exact this
  have:=mnext_any (B i).1 (B i).2 n f ws w hs hk hf;unfold NextRes at this;rw [bits_lead hb] at this;exact this
 refine⟨m,N,_,none,hw.arr,hw.map,hw.miss hi,fun j => ?_,fun f hf => ?_⟩
 · rw [none_lead hF hi];exact mhas_nil j w
 refine(mnext_nil f w hf).mono ?_;rintro e w1 ⟨rfl,rfl⟩;exact⟨_,rfl,.inl ⟨rfl,fun k _ _=>none_lead hF hi⟩,rfl⟩
theorem ok_int(h:i≤1000000):okInt (i:Int):=by unfold okInt;omega
attribute [local irreducible] leadB befB
theorem rchHas_any(r n i j:Nat)(R:List (Nat × Nat))(w:World)(h:RelAt w r n R)(hi:i≤1000000) :
  Calls Tryz.prog 193 #[.pointer (some ⟨r,0,none⟩),.int .i64 i,.int .i64 j] w fun e w'=>e=.returned (.bool (leadB R i j))∧w'=w:=by obtain⟨m,N,f,x,hL⟩:=h.look i;have h1:=hL.arr.k 1 rfl;have hl:=hL.arr.lt;have HL:=Lh hL;have HO:=Lh (ok_int hi);clear h hL;go_enter Tryz.func193,Tryz.ntmps193;go_wp2_with (refine wpList_tlookV keysInt ptrV_inj rfl _ _ _ rfl Tryz.underlying205 none (zero_ptr _) m N f rfl HL.o.map (i:Int) rfl HO.o (ptrV x) HL.o.eq ?_);refine(HL.o.has j).mono ?_;rintro e w1 ⟨rfl,hw⟩;obtain rfl:=hw.symm;go_wp2;go_ret;exact⟨rfl,rfl⟩
theorem rchBefore_any(r n i j:Nat)(R:List (Nat × Nat))(w:World)(h:RelAt w r n R)(hi:i≤1000000)(hj:j≤1000000) :
  Calls Tryz.prog 164 #[.pointer (some ⟨r,0,none⟩),.int .i64 i,.int .i64 j] w fun e w'=>e=.returned (.bool (befB R i j))∧w'=w:=by
 have HV:=Lh (befB_eq R i j);have HH:=Lh h;cases h1:leadB R i j with
 | false =>have H1:=Lh h1;rw [h1] at HV;clear h h1;go_enter Tryz.func164,Tryz.ntmps164;go_wp2_with fail;refine(rchHas_any r n i j R _ HH.o hi).mono ?_;rintro e w1 ⟨rfl,hw⟩;obtain rfl:=hw.symm;rw [H1.o];go_wp2;go_ret;exact⟨rvb HV.o,rfl⟩
 | true =>have H1:=Lh h1;rw [h1] at HV;clear h h1;go_enter Tryz.func164,Tryz.ntmps164;go_wp2_with fail;refine(rchHas_any r n i j R _ HH.o hi).mono ?_;rintro e w1 ⟨rfl,hw⟩;obtain rfl:=hw.symm;rw [H1.o];go_wp2_with fail;refine(rchHas_any r n j i R _ HH.o hj).mono ?_;rintro e w1 ⟨rfl,hw⟩;obtain rfl:=hw.symm;go_wp2;go_ret;exact⟨rvb HV.o,rfl⟩
theorem group_none{f:Nat}{y:Int}(hR:∀ s∈R,s.1<n∧s.2<n)(hi:i<n)(hf:∀ j,j<f→j<i→leadB R i j=true→leadB R j i=false)(hy:NextP (leadB R i) n f y)(h:y<0∨(i:Int)≤y):groupM R i=i:=by
 refine groupM_eq ⟨.inl rfl,fun j hj=>Nat.le_of_not_lt fun hlt => ?_⟩;rcases hj with e|⟨h1,h2⟩
 · omega
 have b1:=leadB_iff.2 h1;have b2:=leadB_iff.2 h2;rcases Nat.lt_or_ge j f with hjf|hjf
 · rw [hf j hjf hlt b1] at b2;cases b2
 rcases hy with⟨rfl,hno⟩|⟨k,rfl,k1,k2,k3,k4⟩
 · rw [hno j hjf (by omega)] at b1;cases b1
 rcases h with h|h
 · omega
 rw [k4 j hjf (by omega)] at b1;cases b1
theorem group_found{f:Nat}(hf:∀ j,j<f→j<i→leadB R i j=true→leadB R j i=false)(h1:leadB R i j=true)(h2:leadB R j i=true)(h3:∀ k,f≤k→k<j→leadB R i k=false)(hji:j<i):groupM R i=j:=by
 refine groupM_eq ⟨.inr ⟨leadB_iff.1 h1,leadB_iff.1 h2⟩,fun k hk=>Nat.le_of_not_lt fun hlt => ?_⟩;rcases hk with e|⟨g1,g2⟩
 · omega
 have b1:=leadB_iff.2 g1;have b2:=leadB_iff.2 g2;rcases Nat.lt_or_ge k f with hkf|hkf
 · rw [hf k hkf (by omega) b1] at b2;cases b2
 rw [h3 k hkf hlt] at b1;cases b1
def GrRel(R:List (Nat × Nat))(n i:Nat)(w:World)(v5:Value)(wr:World):Prop:=∃(f:Nat) (y:Int),f≤n∧v5=.int .i64 y∧NextP (leadB R i) n f y∧Hid (∀ j,j<f→j<i→leadB R i j=true→leadB R j i=false)∧wr=w
theorem rchGroup_any(r n i:Nat)(R:List (Nat × Nat))(w:World)(h:RelAt w r n R)(hi:i<n)(hn:n≤65536) :
  Calls Tryz.prog 135 #[.pointer (some ⟨r,0,none⟩),.int .i64 i] w fun e w'=>e=.returned (.int .i64 (groupM R i:Int))∧w'=w:=by
 have HR:=Lh h.2.1;have HH:=Lh h;obtain⟨m,N,f,x,hL⟩:=h.look i;have h1:=hL.arr.k 1 rfl;have hl:=hL.arr.lt;have HL:=Lh hL;have HO:=Lh (ok_int (i:=i) (by omega));have hd:decide (i<n)=true:=by simp [hi]
 clear h hL;go_enter Tryz.func135,Tryz.ntmps135;go_wp2_with fail;refine(rchLen_any r n R _ HH.o).mono ?_;rintro e w1 ⟨rfl,hw⟩;obtain rfl:=hw.symm;go_wp2_with fail;refine(rchFits_any i n _).mono ?_;rintro e w1 ⟨rfl,hw⟩;obtain rfl:=hw.symm;rw [hd];go_wp2_with (refine wpList_tlookV keysInt ptrV_inj rfl _ _ _ rfl Tryz.underlying205 none (zero_ptr _) m N f rfl HL.o.map (i:Int) rfl HO.o (ptrV x) HL.o.eq ?_);refine(HL.o.next 0 (by omega)).mono ?_;rintro e w1 ⟨y0,rfl,hy0,hw⟩;obtain rfl:=hw.symm;have H0:=Lh hy0;clear hy0;go_wp2;go_loopw [5] (fun v5 wr=>GrRel R n i w v5 wr) (fun v5 _=>winM n (intOf v5))
 case atStart=>exact⟨0,y0,by omega,rfl,H0.o,fun j h=>absurd h (Nat.not_lt_zero j),rfl⟩
 obtain⟨g,y,hgn,rfl,hP,HF,hw⟩:=hrel;obtain rfl:=hw;rcases hP with⟨rfl,hno⟩|⟨j,rfl,j1,j2,j3,j4⟩
 · have HV:=Lh (group_none HR.o hi HF.o (.inl ⟨rfl,hno⟩) (.inl (by decide)));clear hno;go_wp2;go_ret;exact⟨ret_int (by rw [HV.o]),rfl⟩
 have HJ:=Lh (And.intro j3 j4)
 by_cases hji:j<i
 rotate_left
 ·
  have hd1:decide ((j:Int)<(i:Int))=false:=by simp;omega
  have HV:=Lh (group_none HR.o hi HF.o (.inr ⟨j,rfl,j1,j2,j3,j4⟩) (.inr (by omega)));clear j3 j4;go_wp2;go_ret;exact⟨ret_int (by rw [HV.o]),rfl⟩
 have hd1:decide ((j:Int)<(i:Int))=true:=by simp;omega
 cases hb:leadB R j i with
 | true =>have HB:=Lh hb;have HV:=Lh (group_found HF.o HJ.o.1 hb HJ.o.2 hji);clear hb j3 j4;go_wp2_with fail;refine(rchHas_any r n j i R _ HH.o (by omega)).mono ?_;rintro e w1 ⟨rfl,hw⟩;obtain rfl:=hw.symm;rw [HB.o];go_wp2;go_ret;exact⟨ret_int (by rw [HV.o]),rfl⟩
 | false =>
  have HB:=Lh hb;have HF2:Hid (∀ k,k<j+1→k<i→leadB R i k=true→leadB R k i=false):=fun k hk hki hlk=>by
   rcases Nat.lt_or_ge k g with hkg|hkg
   · exact HF.o k hkg hki hlk
   rcases Nat.lt_or_ge k j with hkj|hkj
   · rw [HJ.o.2 k hkg hkj] at hlk;cases hlk
   obtain rfl:k=j:=(by omega);exact HB.o
  clear hb j3 j4;go_wp2_with fail;refine(rchHas_any r n j i R _ HH.o (by omega)).mono ?_;rintro e w1 ⟨rfl,hw⟩;obtain rfl:=hw.symm;rw [HB.o];go_wp2_with (refine wpList_tlookV keysInt ptrV_inj rfl _ _ _ rfl Tryz.underlying205 none (zero_ptr _) m N f rfl HL.o.map (i:Int) rfl HO.o (ptrV x) HL.o.eq ?_);refine(HL.o.next (j+1) (by omega)).mono ?_;rintro e w1 ⟨y2,rfl,hy2,hw⟩;obtain rfl:=hw.symm;have H2:=Lh hy2;have hdec:winM n y2<winM n (j:Int):=by
   unfold winM;rcases hy2 with⟨rfl,_⟩|⟨k,rfl,g1,g2,_⟩
   · simp;omega
   simp;omega
  clear hy2;go_wp2;go_roundw
  case rel=>exact⟨j+1,y2,by omega,rfl,H2.o,HF2,rfl⟩
  exact hdec
end
variable{R:List (Nat × Nat)}{l:List Nat}{i j k:Nat}
inductive BlkM where
 | mk (kind num:Int) (subs:List BlkM)
def lineB(i:Nat):BlkM:=.mk 1 i []
noncomputable def cutB(R:List (Nat × Nat))(l:List Nat)(k:Nat):Bool:=(l.take k).all fun i=>(l.drop k).all fun j=>befB R i j
noncomputable def nearB(R:List (Nat × Nat))(i j:Nat):Bool:=leadB R i j || leadB R j i
theorem nearB_comm(R:List (Nat × Nat))(i j:Nat):nearB R i j=nearB R j i:=Bool.or_comm ..
inductive Near (R:List (Nat × Nat)) (l:List Nat):Nat→Nat→Prop
 | self {i:Nat}:i<l.length→Near R l i i
 | more {i k j:Nat}:Near R l i k→j<l.length→nearB R (l.getD k 0) (l.getD j 0)=true→Near R l i j
theorem Near.right(h:Near R l i j):j<l.length:=by
 cases h with
 | self h=>exact h
 | more _ h _=>exact h
theorem Near.trans(h:Near R l i k)(h':Near R l k j):Near R l i j:=by
 induction h' with
 | self _=>exact h
 | more _ h2 h3 ih=>exact .more ih h2 h3
theorem Near.symm(h:Near R l i j):Near R l j i:=by
 induction h with
 | self h=>exact .self h
 | @more k j h1 h2 h3 ih =>have:Near R l j k:=.more (.self h2) h1.right (by rw [nearB_comm];exact h3);exact this.trans ih
open Classical in
noncomputable def nearD(R:List (Nat × Nat))(l:List Nat)(i j:Nat):Bool:=decide (Near R l i j)
theorem nearD_iff:nearD R l i j=true↔Near R l i j:=by unfold nearD;simp
noncomputable def sideM(R:List (Nat × Nat))(l:List Nat)(i:Nat):List Nat:=(List.range l.length).filter (nearD R l i)
theorem mem_sideM:k∈sideM R l i↔Near R l i k:=by unfold sideM;rw [List.mem_filter,List.mem_range,nearD_iff];exact⟨And.right,fun h=>⟨h.right,h⟩⟩
noncomputable def headB(R:List (Nat × Nat))(l:List Nat)(i:Nat):Bool:=(List.range i).all fun k => !nearD R l k i
noncomputable def headsM(R:List (Nat × Nat))(l:List Nat)(n:Nat):List Nat:=(List.range n).filter (headB R l)
noncomputable def sidesM(R:List (Nat × Nat))(l:List Nat):List (List Nat):=(headsM R l l.length).map (sideM R l)
theorem headB_iff:headB R l i=true↔∀ k,k<i→¬ Near R l k i:=by
 unfold headB;rw [List.all_eq_true];exact⟨fun h k hk hn=>by have:=h k (List.mem_range.2 hk);rw [nearD_iff.2 hn] at this;exact absurd this (by decide),fun h k hk=>by
  have:=h k (List.mem_range.1 hk);cases e:nearD R l k i with
  | false=>rfl
  | true=>exact absurd (nearD_iff.1 e) this⟩
theorem heads_succ(R:List (Nat × Nat))(l:List Nat)(n:Nat):headsM R l (n+1)=headsM R l n++if headB R l n=true then [n] else []:=by unfold headsM;rw [List.range_succ,List.filter_append];cases h:headB R l n <;> simp [h]
noncomputable def piecesTo(R:List (Nat × Nat))(l:List Nat):Nat→List (List Nat) × Nat
 | 0=>([],0)
 | k+1=>let s:=piecesTo R l k;if k+1=l.length∨cutB R l (k+1)=true then(s.1++[(l.take (k+1)).drop s.2],k+1) else s
noncomputable def piecesM(R:List (Nat × Nat))(l:List Nat):List (List Nat):=(piecesTo R l l.length).1
theorem pieces_at(R:List (Nat × Nat))(l:List Nat):∀ k,(piecesTo R l k).2≤k
 | 0=>Nat.le_refl _
 | k+1=>by
  have:=pieces_at R l k;unfold piecesTo;simp only;split
  · exact Nat.le_refl _
  omega
noncomputable def thingsM(l:List Nat)(s:List Nat):List Nat:=s.map fun k=>l.getD k 0
noncomputable def pieceM(R:List (Nat × Nat))(ofF:List Nat→List BlkM)(l:List Nat):BlkM:=
 if l.length=1 then lineB (l.getD 0 0) else if(sidesM R l).length=1 then .mk 3 0 (l.map lineB) else .mk 2 0 ((sidesM R l).map fun s=>.mk 4 0 (ofF (thingsM l s)))
noncomputable def blkM(R:List (Nat × Nat)):Nat→List Nat→List BlkM
 | 0,_=>[]
 | f+1,l=>(piecesM R l).map (pieceM R (blkM R f))
theorem side_few:(sideM R l i).length≤l.length:=by unfold sideM;exact Nat.le_trans (List.length_filter_le _ _) (by rw [List.length_range];exact Nat.le_refl _)
theorem side_all(h:(sideM R l i).length=l.length)(hk:k<l.length):Near R l i k:=by unfold sideM at h;have h2:(List.range l.length).filter (nearD R l i)=List.range l.length:=(List.filter_sublist ..).eq_of_length (by rw [h,List.length_range]);have:=List.filter_eq_self.1 h2 k (List.mem_range.2 hk);exact nearD_iff.1 this
theorem sides_less(h:(sidesM R l).length≠1){s:List Nat}(hs:s∈sidesM R l):s.length<l.length:=by
 unfold sidesM at hs h;obtain⟨i,hi,rfl⟩:=List.mem_map.1 hs;rw [List.length_map] at h;unfold headsM at hi h;obtain⟨hi1,hi2⟩:=List.mem_filter.1 hi;have hi1:=List.mem_range.1 hi1;refine Nat.lt_of_le_of_ne side_few fun e=>h ?_;have h0:i=0:=by
  rcases Nat.eq_zero_or_pos i with h0|h0
  · exact h0
  exact absurd (side_all e (by omega:0<l.length)).symm (headB_iff.1 hi2 0 h0)
 subst h0;have:(List.range l.length).filter (headB R l)=[0]:=by
  have hm:∀ k,k∈(List.range l.length).filter (headB R l)↔k=0:=by
   intro k;rw [List.mem_filter,List.mem_range];constructor
   ·
    rintro⟨hk,hb⟩;rcases Nat.eq_zero_or_pos k with h0|h0
    · exact h0
    exact absurd (side_all e hk) (headB_iff.1 hb 0 h0)
   rintro rfl;exact⟨hi1,hi2⟩
  have hp:((List.range l.length).filter (headB R l)).Pairwise (· < ·):=(List.pairwise_lt_range).filter _
  match hq:(List.range l.length).filter (headB R l) with
  | []=>have:=(hm 0).2 rfl;rw [hq] at this;exact absurd this (List.not_mem_nil)
  | [x]=>rw [(hm x).1 (by rw [hq];exact List.mem_singleton.2 rfl)]
  | x :: y :: r =>have h1:=(hm x).1 (by rw [hq];exact List.mem_cons_self ..);have h2:=(hm y).1 (by rw [hq];exact List.mem_cons_of_mem _ (List.mem_cons_self ..));rw [hq,h1,h2] at hp;exact absurd ((List.pairwise_cons.1 hp).1 0 (List.mem_cons_self ..)) (Nat.lt_irrefl 0)
 rw [this];rfl
end Go.Proofs.YtanfebljiblhbaaGreatDoor
