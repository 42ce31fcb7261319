/- What is proved: MergeTurns, for every input; of the listed tables the walk needs the powers of ten. -/
import Derived.Test.YtjccmcgglfncdaaGreatDoorURchP
import Derived.Test.YtjccmcgglfncdaaGreatDoorUEdiQ
set_option linter.unusedVariables false
set_option linter.unusedSimpArgs false
set_option maxRecDepth 100000
set_option maxHeartbeats 40000000
namespace Go.Proofs.YtjccmcgglfncdaaGreatDoor
open Go Go.RowKit
variable{R:List (Nat × Nat)}{i j n:Nat}
open Classical in
noncomputable def leadB(R:List (Nat × Nat))(i j:Nat):Bool:=decide (Lead R i j)
theorem leadB_iff:leadB R i j=true↔Lead R i j:=by unfold leadB;simp
theorem leadB_no:leadB R i j=false↔¬ Lead R i j:=by unfold leadB;simp
theorem befB_eq(R:List (Nat × Nat))(i j:Nat):befB R i j=(leadB R i j && !leadB R j i):=by rw [Bool.eq_iff_iff,befB_iff,Bool.and_eq_true,leadB_iff,Bool.not_eq_true',leadB_no];exact Iff.rfl
open Classical in
noncomputable def aliB(R:List (Nat × Nat))(i j:Nat):Bool:=decide (AlikeP R i j)
theorem aliB_iff:aliB R i j=true↔AlikeP R i j:=by unfold aliB;simp
theorem aliB_self(R:List (Nat × Nat))(i:Nat):aliB R i i=true:=aliB_iff.2 (.inl rfl)
theorem aliB_eq(h:i≠j):aliB R i j=(leadB R i j && leadB R j i):=by rw [Bool.eq_iff_iff,aliB_iff,Bool.and_eq_true,leadB_iff,leadB_iff];unfold AlikeP;simp [h]
theorem rchFits_any(i n:Nat)(w:World):Calls Tryz.prog 155 #[.int .i64 i,.int .i64 n] w fun e w'=>e=.returned (.bool (decide (i<n)))∧w'=w:=by go_enter Tryz.func155,Tryz.ntmps155;go_wp2;go_ret;exact⟨rvl (congrArg Value.bool (by simp)),rfl⟩
theorem RelAt.arr{w:World}{r:Nat}(h:RelAt w r n R):∃ m,Arr w r [.int .i64 n,.map (some m)]:=by obtain⟨_,_,m,N,base,FS,B,hw,_⟩:=h;exact⟨m,hw.arr⟩
theorem rchLen_any(r n:Nat)(R:List (Nat × Nat))(w:World)(h:RelAt w r n R):Calls Tryz.prog 161 #[.pointer (some ⟨r,0,none⟩)] w fun e w'=>e=.returned (.int .i64 n)∧w'=w:=by obtain⟨m,hA⟩:=h.arr;obtain⟨h0,hl⟩:=hA.c1;clear h hA;go_enter Tryz.func161,Tryz.ntmps161;go_wp2;go_ret;exact⟨rfl,rfl⟩
structure RelLook (w:World) (r n m N:Nat) (R:List (Nat × Nat)) (i:Nat) (f:Int→Option (Option Nat)) (x:Option Nat):Prop where
 arr:Arr w r [.int .i64 n,.map (some m)]
 map:TMap Tryz.prog 3 numV okInt ptrV w m N f
 eq:ptrV ((f (i:Int)).getD none)=ptrV x
 has:∀ j:Nat,Calls Tryz.prog 158 #[ptrV x,.int .i64 j] w fun e w'=>e=.returned (.bool (leadB R i j))∧w'=w
 next:∀ f:Nat,f≤1000000→Calls Tryz.prog 229 #[ptrV x,.int .i64 f] w fun e w'=>∃ y:Int,e=.returned (.int .i64 y)∧NextP (leadB R i) n f y∧w'=w
theorem has_lead{ws:List Nat}(hR:∀ s∈R,s.1<n∧s.2<n)(h:∀ j,bitW ws j=true↔Lead R i j):hasS n ws j=leadB R i j:=by unfold hasS;rw [Bool.eq_iff_iff,leadB_iff,Bool.and_eq_true,h,decide_eq_true_iff];exact⟨And.right,fun q=>⟨(q.lt hR).2,q⟩⟩
theorem bits_lead{ws:List Nat}(h:∀ j,bitW ws j=true↔Lead R i j):bitW ws=leadB R i:=funext fun j=>by rw [Bool.eq_iff_iff,leadB_iff,h]
theorem none_lead{FS:List Nat}(hF:∀ i:Nat,i∈FS↔∃ j,(i,j)∈R)(h:i ∉ FS):leadB R i j=false:=leadB_no.2 fun q=>h ((hF i).2 q.from')
theorem RelAt.look{w:World}{r:Nat}(h:RelAt w r n R)(i:Nat):∃ m N f x,RelLook w r n m N R i f x:=by
 obtain⟨hn,hR,m,N,base,FS,B,hw,hF⟩:=h
 by_cases hi:i∈FS
 ·
  obtain⟨ws,hs,hk,hb⟩:=hw.sets i hi;refine⟨m,N,_,some (B i).1,hw.arr,hw.map,hw.look hi,fun j => ?_,fun f hf => ?_⟩
  · have:=mhas_any (B i).1 (B i).2 n j ws w hs hk;rw [has_lead hR hb] at this;exact this
  have:=mnext_any (B i).1 (B i).2 n f ws w hs hk hf;unfold NextRes at this;rw [bits_lead hb] at this;exact this
 refine⟨m,N,_,none,hw.arr,hw.map,hw.miss hi,fun j => ?_,fun f hf => ?_⟩
 · rw [none_lead hF hi];exact mhas_nil j w
 refine(mnext_nil f w hf).mono ?_;rintro e w1 ⟨rfl,rfl⟩;exact⟨_,rfl,.inl ⟨rfl,fun k _ _=>none_lead hF hi⟩,rfl⟩
theorem ok_int(h:i≤1000000):okInt (i:Int):=by unfold okInt;omega
attribute [local irreducible] leadB befB aliB
theorem rchHas_any(r n i j:Nat)(R:List (Nat × Nat))(w:World)(h:RelAt w r n R)(hi:i≤1000000) :
  Calls Tryz.prog 223 #[.pointer (some ⟨r,0,none⟩),.int .i64 i,.int .i64 j] w fun e w'=>e=.returned (.bool (leadB R i j))∧w'=w:=by obtain⟨m,N,f,x,hL⟩:=h.look i;have h1:=hL.arr.k 1 rfl;have hl:=hL.arr.lt;have HL:=Lh hL;have HO:=Lh (ok_int hi);clear h hL;go_enter Tryz.func223,Tryz.ntmps223;go_wp2_with (refine wpList_tlookV keysInt ptrV_inj rfl _ _ _ rfl Tryz.underlying224 none (zero_ptr _) m N f rfl HL.o.map (i:Int) rfl HO.o (ptrV x) HL.o.eq ?_);refine(HL.o.has j).mono ?_;rintro e w1 ⟨rfl,hw⟩;obtain rfl:=hw.symm;go_wp2;go_ret;exact⟨rfl,rfl⟩
theorem rchBefore_any(r n i j:Nat)(R:List (Nat × Nat))(w:World)(h:RelAt w r n R)(hi:i≤1000000)(hj:j≤1000000) :
  Calls Tryz.prog 150 #[.pointer (some ⟨r,0,none⟩),.int .i64 i,.int .i64 j] w fun e w'=>e=.returned (.bool (befB R i j))∧w'=w:=by
 have HV:=Lh (befB_eq R i j);have HH:=Lh h;cases h1:leadB R i j with
 | false =>have H1:=Lh h1;rw [h1] at HV;clear h h1;go_enter Tryz.func150,Tryz.ntmps150;go_wp2_with fail;refine(rchHas_any r n i j R _ HH.o hi).mono ?_;rintro e w1 ⟨rfl,hw⟩;obtain rfl:=hw.symm;rw [H1.o];go_wp2;go_ret;exact⟨rvb HV.o,rfl⟩
 | true =>have H1:=Lh h1;rw [h1] at HV;clear h h1;go_enter Tryz.func150,Tryz.ntmps150;go_wp2_with fail;refine(rchHas_any r n i j R _ HH.o hi).mono ?_;rintro e w1 ⟨rfl,hw⟩;obtain rfl:=hw.symm;rw [H1.o];go_wp2_with fail;refine(rchHas_any r n j i R _ HH.o hj).mono ?_;rintro e w1 ⟨rfl,hw⟩;obtain rfl:=hw.symm;go_wp2;go_ret;exact⟨rvb HV.o,rfl⟩
theorem rchAlike_any(r n i j:Nat)(R:List (Nat × Nat))(w:World)(h:RelAt w r n R)(hi:i<n)(hn:n≤65536)(hj:j≤1000000) :
  Calls Tryz.prog 310 #[.pointer (some ⟨r,0,none⟩),.int .i64 i,.int .i64 j] w fun e w'=>e=.returned (.bool (aliB R i j))∧w'=w:=by
 have HH:=Lh h;have hd:decide (i<n)=true:=by simp [hi]
 have hi2:i≤1000000:=by omega
 by_cases he:i=j
 · subst he;have HV:=Lh (aliB_self R i);clear h;go_enter Tryz.func310,Tryz.ntmps310;go_wp2_with fail;refine(rchLen_any r n R _ HH.o).mono ?_;rintro e w1 ⟨rfl,hw⟩;obtain rfl:=hw.symm;go_wp2_with fail;refine(rchFits_any i n _).mono ?_;rintro e w1 ⟨rfl,hw⟩;obtain rfl:=hw.symm;rw [hd];go_wp2;go_ret;exact⟨rvb HV.o,rfl⟩
 have HV:=Lh (aliB_eq (R:=R) he);have e1:((i:Int) == (j:Int))=false:=by simp;omega
 cases h1:leadB R i j with
 | false =>have H1:=Lh h1;rw [h1] at HV;clear h h1 he;go_enter Tryz.func310,Tryz.ntmps310;go_wp2_with fail;refine(rchLen_any r n R _ HH.o).mono ?_;rintro e w1 ⟨rfl,hw⟩;obtain rfl:=hw.symm;go_wp2_with fail;refine(rchFits_any i n _).mono ?_;rintro e w1 ⟨rfl,hw⟩;obtain rfl:=hw.symm;rw [hd];go_wp2_with fail;refine(rchHas_any r n i j R _ HH.o hi2).mono ?_;rintro e w1 ⟨rfl,hw⟩;obtain rfl:=hw.symm;rw [H1.o];go_wp2;go_ret;exact⟨rvb HV.o,rfl⟩
 | true =>have H1:=Lh h1;rw [h1] at HV;clear h h1 he;go_enter Tryz.func310,Tryz.ntmps310;go_wp2_with fail;refine(rchLen_any r n R _ HH.o).mono ?_;rintro e w1 ⟨rfl,hw⟩;obtain rfl:=hw.symm;go_wp2_with fail;refine(rchFits_any i n _).mono ?_;rintro e w1 ⟨rfl,hw⟩;obtain rfl:=hw.symm;rw [hd];go_wp2_with fail;refine(rchHas_any r n i j R _ HH.o hi2).mono ?_;rintro e w1 ⟨rfl,hw⟩;obtain rfl:=hw.symm;rw [H1.o];go_wp2_with fail;refine(rchHas_any r n j i R _ HH.o hj).mono ?_;rintro e w1 ⟨rfl,hw⟩;obtain rfl:=hw.symm;go_wp2;go_ret;exact⟨rvb HV.o,rfl⟩
theorem group_none{f:Nat}{y:Int}(hR:∀ s∈R,s.1<n∧s.2<n)(hi:i<n)(hf:∀ j,j<f→j<i→leadB R i j=true→leadB R j i=false)(hy:NextP (leadB R i) n f y)(h:y<0∨(i:Int)≤y):groupM R i=i:=by
 refine groupM_eq ⟨.inl rfl,fun j hj=>Nat.le_of_not_lt fun hlt => ?_⟩;rcases hj with e|⟨h1,h2⟩
 · omega
 have b1:=leadB_iff.2 h1;have b2:=leadB_iff.2 h2;rcases Nat.lt_or_ge j f with hjf|hjf
 · rw [hf j hjf hlt b1] at b2;cases b2
 rcases hy with⟨rfl,hno⟩|⟨k,rfl,k1,k2,k3,k4⟩
 · rw [hno j hjf (by omega)] at b1;cases b1
 rcases h with h|h
 · omega
 rw [k4 j hjf (by omega)] at b1;cases b1
theorem group_found{f:Nat}(hf:∀ j,j<f→j<i→leadB R i j=true→leadB R j i=false)(h1:leadB R i j=true)(h2:leadB R j i=true)(h3:∀ k,f≤k→k<j→leadB R i k=false)(hji:j<i):groupM R i=j:=by
 refine groupM_eq ⟨.inr ⟨leadB_iff.1 h1,leadB_iff.1 h2⟩,fun k hk=>Nat.le_of_not_lt fun hlt => ?_⟩;rcases hk with e|⟨g1,g2⟩
 · omega
 have b1:=leadB_iff.2 g1;have b2:=leadB_iff.2 g2;rcases Nat.lt_or_ge k f with hkf|hkf
 · rw [hf k hkf (by omega) b1] at b2;cases b2
 rw [h3 k hkf hlt] at b1;cases b1
def GrRel(R:List (Nat × Nat))(n i:Nat)(w:World)(v5:Value)(wr:World):Prop:=∃(f:Nat) (y:Int),f≤n∧v5=.int .i64 y∧NextP (leadB R i) n f y∧Hid (∀ j,j<f→j<i→leadB R i j=true→leadB R j i=false)∧wr=w
theorem rchGroup_any(r n i:Nat)(R:List (Nat × Nat))(w:World)(h:RelAt w r n R)(hi:i<n)(hn:n≤65536) :
  Calls Tryz.prog 162 #[.pointer (some ⟨r,0,none⟩),.int .i64 i] w fun e w'=>e=.returned (.int .i64 (groupM R i:Int))∧w'=w:=by
 have HR:=Lh h.2.1;have HH:=Lh h;obtain⟨m,N,f,x,hL⟩:=h.look i;have h1:=hL.arr.k 1 rfl;have hl:=hL.arr.lt;have HL:=Lh hL;have HO:=Lh (ok_int (i:=i) (by omega));have hd:decide (i<n)=true:=by simp [hi]
 clear h hL;go_enter Tryz.func162,Tryz.ntmps162;go_wp2_with fail;refine(rchLen_any r n R _ HH.o).mono ?_;rintro e w1 ⟨rfl,hw⟩;obtain rfl:=hw.symm;go_wp2_with fail;refine(rchFits_any i n _).mono ?_;rintro e w1 ⟨rfl,hw⟩;obtain rfl:=hw.symm;rw [hd];go_wp2_with (refine wpList_tlookV keysInt ptrV_inj rfl _ _ _ rfl Tryz.underlying224 none (zero_ptr _) m N f rfl HL.o.map (i:Int) rfl HO.o (ptrV x) HL.o.eq ?_);refine(HL.o.next 0 (by omega)).mono ?_;rintro e w1 ⟨y0,rfl,hy0,hw⟩;obtain rfl:=hw.symm;have H0:=Lh hy0;clear hy0;go_wp2;go_loopw [5] (fun v5 wr=>GrRel R n i w v5 wr) (fun v5 _=>winM n (intOf v5))
 case atStart=>exact⟨0,y0,by omega,rfl,H0.o,fun j h=>absurd h (Nat.not_lt_zero j),rfl⟩
 obtain⟨g,y,hgn,rfl,hP,HF,hw⟩:=hrel;obtain rfl:=hw;rcases hP with⟨rfl,hno⟩|⟨j,rfl,j1,j2,j3,j4⟩
 · have HV:=Lh (group_none HR.o hi HF.o (.inl ⟨rfl,hno⟩) (.inl (by decide)));clear hno;go_wp2;go_ret;exact⟨ret_int (by rw [HV.o]),rfl⟩
 have HJ:=Lh (And.intro j3 j4)
 by_cases hji:j<i
 rotate_left
 ·
  have hd1:decide ((j:Int)<(i:Int))=false:=by simp;omega
  have HV:=Lh (group_none HR.o hi HF.o (.inr ⟨j,rfl,j1,j2,j3,j4⟩) (.inr (by omega)));clear j3 j4;go_wp2;go_ret;exact⟨ret_int (by rw [HV.o]),rfl⟩
 have hd1:decide ((j:Int)<(i:Int))=true:=by simp;omega
 cases hb:leadB R j i with
 | true =>have HB:=Lh hb;have HV:=Lh (group_found HF.o HJ.o.1 hb HJ.o.2 hji);clear hb j3 j4;go_wp2_with fail;refine(rchHas_any r n j i R _ HH.o (by omega)).mono ?_;rintro e w1 ⟨rfl,hw⟩;obtain rfl:=hw.symm;rw [HB.o];go_wp2;go_ret;exact⟨ret_int (by rw [HV.o]),rfl⟩
 | false =>
  have HB:=Lh hb;have HF2:Hid (∀ k,k<j+1→k<i→leadB R i k=true→leadB R k i=false):=fun k hk hki hlk=>by
   rcases Nat.lt_or_ge k g with hkg|hkg
   · exact HF.o k hkg hki hlk
   rcases Nat.lt_or_ge k j with hkj|hkj
   · rw [HJ.o.2 k hkg hkj] at hlk;cases hlk
   obtain rfl:k=j:=(by omega);exact HB.o
  clear hb j3 j4;go_wp2_with fail;refine(rchHas_any r n j i R _ HH.o (by omega)).mono ?_;rintro e w1 ⟨rfl,hw⟩;obtain rfl:=hw.symm;rw [HB.o];go_wp2_with (refine wpList_tlookV keysInt ptrV_inj rfl _ _ _ rfl Tryz.underlying224 none (zero_ptr _) m N f rfl HL.o.map (i:Int) rfl HO.o (ptrV x) HL.o.eq ?_);refine(HL.o.next (j+1) (by omega)).mono ?_;rintro e w1 ⟨y2,rfl,hy2,hw⟩;obtain rfl:=hw.symm;have H2:=Lh hy2;have hdec:winM n y2<winM n (j:Int):=by
   unfold winM;rcases hy2 with⟨rfl,_⟩|⟨k,rfl,g1,g2,_⟩
   · simp;omega
   simp;omega
  clear hy2;go_wp2;go_roundw
  case rel=>exact⟨j+1,y2,by omega,rfl,H2.o,HF2,rfl⟩
  exact hdec
end Go.Proofs.YtjccmcgglfncdaaGreatDoor
