/- What is proved: MergeTurns, for every input; of the listed tables the walk needs the powers of ten. -/
import Derived.Test.YtjccmcgglfncdaaGreatDoorUMtF
import Derived.Test.YtjccmcgglfncdaaGreatDoorUPatO
import Derived.Laws.IdiomArrays
import Derived.Test.YtjccmcgglfncdaaGreatDoorUCard
import Derived.Stop.LaidErr
set_option linter.unusedVariables false
set_option linter.unusedSimpArgs false
set_option maxRecDepth 100000
set_option maxHeartbeats 40000000
namespace Go.Proofs.YtjccmcgglfncdaaGreatDoor
open Go Go.RowKit
def smMt(t:List FileM)(i:Nat):Bool:=decide (t.length≤16) && (t.take i).all smallF
theorem smMt_zero(t:List FileM):smMt t 0=decide (t.length≤16):=by unfold smMt;simp
theorem smMt_succ{t:List FileM}{i:Nat}{f:FileM}(h:t[i]? = some f):smMt t (i+1)=(smMt t i && decide (f.lines.length≤60)):=by unfold smMt;rw [take_succ' h,List.all_append];simp [smallF,Bool.and_assoc]
theorem smMt_all(t:List FileM):smMt t t.length=(decide (t.length≤16) && t.all smallF):=by unfold smMt;rw [List.take_length]
def MtRel(w4:World)(t:List FileM)(v9 v10:Value)(wr:World):Prop:=∃(i:Nat) (s:Bool),i≤t.length∧v9=.bool s∧v10=.int .i64 i∧Hid (s=smMt t i)∧Hid (Be w4 wr)
attribute [local irreducible] mgL2 MgLong cleanM mgP mgC mg1 smMt smallF
theorem mtturns_any(a1 a2 a3:Option Addr)(n1 n2 n3 c1 c2 c3:Nat)(ta tb tc:List FileM)(w:World)(ha:FRow w (.slice a1 n1 c1) ta)(hb:FRow w (.slice a2 n2 c2) tb)(hc:FRow w (.slice a3 n3 c3) tc)(ht:Tab w) :
  Calls Tryz.prog 7 #[.agg #[.slice a1 n1 c1,.slice a2 n2 c2,.slice a3 n3 c3]] w fun e w'=>e=.returned (.bool true)∧Be w w':=by
 have HA:=Lh ha;have HBt:=Lh hb;have HC:=Lh hc;have HT:=Lh ht;clear ha hb hc ht;have HX0:=Lh (anw w #[.slice a1 n1 c1,.slice a2 n2 c2,.slice a3 n3 c3] 67);have HB0:=Lh (bnew (w:=w) (.cells #[.slice a1 n1 c1,.slice a2 n2 c2,.slice a3 n3 c3] 67));go_enter Tryz.func7,Tryz.ntmps7;go_upto_region 1 with fail;obtain⟨g,hg⟩:∃ g,w.heap.size=g:=⟨_,rfl⟩;rw [hg] at HX0 ⊢;clear hg;generalize w.alloc (.cells #[.slice a1 n1 c1,.slice a2 n2 c2,.slice a3 n3 c3] 67)=w0 at *;obtain⟨x0,x1,x2,sx⟩:=HX0.o.c3;go_wp2_with fail;refine(few55_any a1 a2 a3 n1 n2 n3 c1 c2 c3 ta tb tc w0 (HA.o.over HB0.o) (HBt.o.over HB0.o) (HC.o.over HB0.o)).mono ?_;rintro e w1 ⟨rfl,hb⟩;have HB1:=Lh (bvo HB0.o hb);have HX1:=Lh (HX0.o.over hb);clear hb;clear x0 x1 x2 sx;cases hf:(few15 ta && (few15 tb && few15 tc)) with
 | false =>clear hf;go_wp2_with fail;refine(works55_any _ (HT.o.over HB1.o)).mono ?_;rintro e w99 ⟨rfl,hb99⟩;have HB99:=Lh (bvo HB1.o hb99);clear hb99;go_wp2;go_ret;exact⟨rfl,HB99.o⟩
 | true =>
  rw [Bool.and_eq_true,Bool.and_eq_true] at hf;have SA:=Lh (few15_sz hf.1);have SB:=Lh (few15_sz hf.2.1);have SC:=Lh (few15_sz hf.2.2);clear hf
  by_cases hg:treeGood ta=true∧treeGood tb=true∧treeGood tc=true
  ·
   have GA:=Lh hg.1;have GB:=Lh hg.2.1;have GC:=Lh hg.2.2;have HLg:=Lh (mg_longTurn GA.out GB.out GC.out);have HTu:=Lh (mg_turns GA.out GB.out GC.out);clear hg;have HT1:=Lh (three_any (.slice a1 n1 c1) (.slice a2 n2 c2) (.slice a3 n3 c3) ta tb tc w1 (HA.o.over HB1.o) (HBt.o.over HB1.o) (HC.o.over HB1.o) SA.out SB.out SC.out GA.out GB.out GC.out (HT.o.over HB1.o));obtain⟨x0,x1,x2,sx⟩:=HX1.o.c3;go_wp2_with fail;refine HT1.o.mono ?_;rintro e w2 h2;clear x0 x1 x2 sx;rcases h2 with⟨hl2,rfl,hb⟩|⟨hl2,v2,t2,rfl,hi2,hf2,hb⟩
   ·
    have HL2:=Lh hl2;clear hl2;have HB2:=Lh (bvo HB1.o hb);have HX2:=Lh (HX1.o.over hb);clear hb;have HT2:=Lh (three_any (.slice a1 n1 c1) (.slice a3 n3 c3) (.slice a2 n2 c2) ta tc tb w2 (HA.o.over HB2.o) (HC.o.over HB2.o) (HBt.o.over HB2.o) SA.out SC.out SB.out GA.out GC.out GB.out (HT.o.over HB2.o));obtain⟨x0,x1,x2,sx⟩:=HX2.o.c3;go_wp2_with fail;refine HT2.o.mono ?_;rintro e w3 h3;clear x0 x1 x2 sx;rcases h3 with⟨hl3,rfl,hb⟩|⟨hl3,_⟩
    rotate_left
    · exact absurd (HLg.o.1 HL2.o) hl3
    have HB3:=Lh (bvo HB2.o hb);have HX3:=Lh (HX2.o.over hb);clear hb;clear hl3;go_wp2_with fail;refine(works55_any _ (HT.o.over HB3.o)).mono ?_;rintro e w99 ⟨rfl,hb99⟩;have HB99:=Lh (bvo HB3.o hb99);clear hb99;go_wp2;go_ret;exact⟨rfl,HB99.o⟩
   ·
    obtain⟨a4,c4,ev2,q1,q2,_,hrc⟩:=hf2.form;obtain⟨n4,hn4⟩:∃ n,t2.length=n:=⟨_,rfl⟩;have HN4:=Lh hn4;rw [hn4] at ev2 q1 hrc;subst ev2;unfold maxLen at q2;have HL2:=Lh hl2;have HI2:=Lh hi2;have HF2:=Lh hf2;have HRc2:=Lh hrc;have d16:decide ((n4:Int)≤16)=decide (n4≤16):=(by rw [decide_eq_decide];omega);clear hl2 hi2 hf2 hrc hn4;have HB12:=Lh hb;have HB2:=Lh (bvo HB1.o hb);have HX2:=Lh (HX1.o.over hb);clear hb;have HT2:=Lh (three_any (.slice a1 n1 c1) (.slice a3 n3 c3) (.slice a2 n2 c2) ta tc tb w2 (HA.o.over HB2.o) (HC.o.over HB2.o) (HBt.o.over HB2.o) SA.out SC.out SB.out GA.out GC.out GB.out (HT.o.over HB2.o));obtain⟨x0,x1,x2,sx⟩:=HX2.o.c3;go_wp2_with fail;refine HT2.o.mono ?_;rintro e w3 h3;clear x0 x1 x2 sx;rcases h3 with⟨hl3,_⟩|⟨hl3,v3,t3,rfl,hi3,hf3,hb⟩
    · exact absurd (HLg.o.2 hl3) HL2.o
    obtain⟨a5,c5,ev3,_,_,_,_⟩:=hf3.form;obtain⟨n5,hn5⟩:∃ n,t3.length=n:=⟨_,rfl⟩;rw [hn5] at ev3;subst ev3;have HI3:=Lh hi3;have HF3:=Lh hf3;have HF23:=Lh (HF2.o.over hb);obtain⟨c,hc⟩:∃ c,cleanM (mgL2 ta tb tc)=c:=⟨_,rfl⟩;have HCl:=Lh hc;have hc2:cleanM (mgL2 ta tc tb)=c:=(by rw [← HTu.o.1];exact hc);rw [hc,hc2];have HB3:=Lh (bvo HB2.o hb);have HX3:=Lh (HX2.o.over hb);clear hb;clear hl3 hi3 hf3 hn5 hc hc2;cases c with
    | false =>
     obtain⟨_,_,evr,_,_,_,hrc⟩:=HF23.o.form;obtain⟨rfl,hlq,rfl⟩:=Value.slice.inj evr;rw [HN4.o] at hrc;have HRc:=Lh hrc;clear hrc evr hlq;go_wp2;go_loopw [9,10] (fun v9 v10 wr=>MtRel w3 t2 v9 v10 wr) (fun _ v10 _=>n4 - (intOf v10).toNat)
     case atStart=>exact⟨0,_,Nat.zero_le _,rfl,rfl,Lh (by rw [smMt_zero,HN4.o] <;> with_reducible first|exact d16|rfl),Below.refl _ _⟩
     case round =>
      obtain⟨i,s,hi,rfl,rfl,HS,HBr⟩:=hrel;rename World=>wr;rw [HN4.o] at hi
      by_cases hlt:i<n4
      ·
       obtain⟨b4,off4,rfl,sb4,hcf⟩:=HRc.o.resolve_left (by omega);obtain⟨f,hf⟩:=gol (show i<t2.length by rw [HN4.o];exact hlt);have HFi:=Lh hf;obtain⟨av,lv,hFA⟩:=hcf i f hf;have HFA:=Lh (hFA.over HBr.o sb4);have sb:b4<wr.heap.size:=Nat.lt_of_lt_of_le sb4 HBr.o.size;obtain⟨al,cl,rfl,kl1,kl2,_,hcl⟩:=hFA.lines.form;unfold maxLen at kl2;have c2:=HFA.o.c2;obtain⟨nl,hnl⟩:∃ n,f.lines.length=n:=⟨_,rfl⟩;have HNL:=Lh hnl;rw [hnl] at c2 kl1;have d60:decide ((nl:Int)≤60)=decide (nl≤60):=(by rw [decide_eq_decide];omega);obtain⟨s2,hs2⟩:∃ q,(s && decide (nl≤60))=q:=⟨_,rfl⟩;have HS2:Hid (s2=smMt t2 (i+1)):=Lh (by rw [smMt_succ HFi.o,← HS.o,HNL.o,hs2]);have HE2:=Lh hs2;clear hcf hf hFA hcl hnl hs2;cases s with
       | false =>
        go_wp2;go_roundw
        case rel=>exact⟨i+1,_,by rw [HN4.o];exact hlt,rfl,by go_num,Lh (by rw [← HS2.o,← HE2.o,Bool.false_and]),HBr⟩
        case measure=>simp [intOf];omega
       | true =>
        go_wp2;go_roundw
        case rel=>exact⟨i+1,_,by rw [HN4.o];exact hlt,rfl,by go_num,Lh (by rw [← HS2.o,← HE2.o,Bool.true_and] <;> with_reducible first|exact d60|rfl),HBr⟩
        case measure=>simp [intOf];omega
      · obtain rfl:i=n4:=(by omega);have HBe:=Lh (bvo HB3.o HBr.o);clear HS;go_wp2_with fail;refine(works55_any _ (HT.o.over HBe.o)).mono ?_;rintro e w99 ⟨rfl,hb99⟩;have HB99:=Lh (bvo HBe.o hb99);clear hb99;go_wp2;go_ret;exact⟨rfl,HB99.o⟩
    | true =>
     have e23:=HTu.o.2 HCl.o _ _ HI2.o HI3.o;subst e23;have HSZ:Hid (SzT t2):=Lh (tree_sizes (mg_wf GA.out GB.out GC.out) HI2.o);have HGd:Hid (treeGood t2=(decide (t2.length≤16) && t2.all smallF)):=Lh (by obtain⟨k1,k2⟩:=tree_law (mg_wf GA.out GB.out GC.out) HI2.o;rw [k2,← k1,HCl.o,Bool.true_and]);go_wp2_with fail;refine(rsame_any _ _ t2 t2 w3 HF23.o HF3.o).mono ?_;rw [sameT_t rfl];rintro e w4 ⟨rfl,hb⟩;have HB4:=Lh (bvo HB3.o hb);have HF2r:=Lh (HF23.o.over hb);clear hb;obtain⟨_,_,evr,_,_,_,hrc⟩:=HF2r.o.form;obtain⟨rfl,hlq,rfl⟩:=Value.slice.inj evr;rw [HN4.o] at hrc;have HRc:=Lh hrc;clear hrc evr hlq;go_wp2;go_loopw [9,10] (fun v9 v10 wr=>MtRel w4 t2 v9 v10 wr) (fun _ v10 _=>n4 - (intOf v10).toNat)
     case atStart=>exact⟨0,_,Nat.zero_le _,rfl,rfl,Lh (by rw [smMt_zero,HN4.o] <;> with_reducible first|exact d16|rfl),Below.refl _ _⟩
     case round =>
      obtain⟨i,s,hi,rfl,rfl,HS,HBr⟩:=hrel;rename World=>wr;rw [HN4.o] at hi
      by_cases hlt:i<n4
      ·
       obtain⟨b4,off4,rfl,sb4,hcf⟩:=HRc.o.resolve_left (by omega);obtain⟨f,hf⟩:=gol (show i<t2.length by rw [HN4.o];exact hlt);have HFi:=Lh hf;obtain⟨av,lv,hFA⟩:=hcf i f hf;have HFA:=Lh (hFA.over HBr.o sb4);have sb:b4<wr.heap.size:=Nat.lt_of_lt_of_le sb4 HBr.o.size;obtain⟨al,cl,rfl,kl1,kl2,_,hcl⟩:=hFA.lines.form;unfold maxLen at kl2;have c2:=HFA.o.c2;obtain⟨nl,hnl⟩:∃ n,f.lines.length=n:=⟨_,rfl⟩;have HNL:=Lh hnl;rw [hnl] at c2 kl1;have d60:decide ((nl:Int)≤60)=decide (nl≤60):=(by rw [decide_eq_decide];omega);obtain⟨s2,hs2⟩:∃ q,(s && decide (nl≤60))=q:=⟨_,rfl⟩;have HS2:Hid (s2=smMt t2 (i+1)):=Lh (by rw [smMt_succ HFi.o,← HS.o,HNL.o,hs2]);have HE2:=Lh hs2;clear hcf hf hFA hcl hnl hs2;cases s with
       | false =>
        go_wp2;go_roundw
        case rel=>exact⟨i+1,_,by rw [HN4.o];exact hlt,rfl,by go_num,Lh (by rw [← HS2.o,← HE2.o,Bool.false_and]),HBr⟩
        case measure=>simp [intOf];omega
       | true =>
        go_wp2;go_roundw
        case rel=>exact⟨i+1,_,by rw [HN4.o];exact hlt,rfl,by go_num,Lh (by rw [← HS2.o,← HE2.o,Bool.true_and] <;> with_reducible first|exact d60|rfl),HBr⟩
        case measure=>simp [intOf];omega
      ·
       obtain rfl:i=n4:=(by omega);have HBe:=Lh (bvo HB4.o HBr.o);have HGd2:Hid (treeGood t2=s):=Lh (by rw [HGd.o,HS.o,← HN4.o,smMt_all]);have HRG:=Lh (rtgood_any _ t2 wr (HF2r.o.over HBr.o) HSZ.o);rw [HGd2.o] at HRG;clear HS HGd2;cases s with
       | false =>go_wp2_with fail;refine HRG.o.mono ?_;rintro e w7 ⟨rfl,hb⟩;have HB7:=Lh (bvo HBe.o hb);clear hb;go_wp2_with fail;refine(works55_any _ (HT.o.over HB7.o)).mono ?_;rintro e w99 ⟨rfl,hb99⟩;have HB99:=Lh (bvo HB7.o hb99);clear hb99;go_wp2;go_ret;exact⟨rfl,HB99.o⟩
       | true =>go_wp2_with fail;refine HRG.o.mono ?_;rintro e w7 ⟨rfl,hb⟩;have HB7:=Lh (bvo HBe.o hb);clear hb;go_wp2_with fail;refine(works55_any _ (HT.o.over HB7.o)).mono ?_;rintro e w99 ⟨rfl,hb99⟩;have HB99:=Lh (bvo HB7.o hb99);clear hb99;go_wp2;go_ret;exact⟨rfl,HB99.o⟩
  · have HT1:=Lh (threeBad_any (.slice a1 n1 c1) (.slice a2 n2 c2) (.slice a3 n3 c3) ta tb tc w1 (HA.o.over HB1.o) (HBt.o.over HB1.o) (HC.o.over HB1.o) SA.out SB.out SC.out hg);have HG2:=Lh (fun q:treeGood ta=true∧treeGood tc=true∧treeGood tb=true=>hg ⟨q.1,q.2.2,q.2.1⟩);clear hg;obtain⟨x0,x1,x2,sx⟩:=HX1.o.c3;go_wp2_with fail;refine HT1.o.mono ?_;rintro e w2 ⟨rfl,hb⟩;have HB2:=Lh (bvo HB1.o hb);have HX2:=Lh (HX1.o.over hb);clear hb;clear x0 x1 x2 sx;have HT2:=Lh (threeBad_any (.slice a1 n1 c1) (.slice a3 n3 c3) (.slice a2 n2 c2) ta tc tb w2 (HA.o.over HB2.o) (HC.o.over HB2.o) (HBt.o.over HB2.o) SA.out SC.out SB.out HG2.o);obtain⟨x0,x1,x2,sx⟩:=HX2.o.c3;go_wp2_with fail;refine HT2.o.mono ?_;rintro e w3 ⟨rfl,hb⟩;have HB3:=Lh (bvo HB2.o hb);have HX3:=Lh (HX2.o.over hb);clear hb;clear x0 x1 x2 sx;go_wp2_with fail;refine(works55_any _ (HT.o.over HB3.o)).mono ?_;rintro e w99 ⟨rfl,hb99⟩;have HB99:=Lh (bvo HB3.o hb99);clear hb99;go_wp2;go_ret;exact⟨rfl,HB99.o⟩
end Go.Proofs.YtjccmcgglfncdaaGreatDoor
set_option maxRecDepth 100000
set_option maxHeartbeats 40000000
namespace Go.Proofs.YtjccmcgglfncdaaGreatDoor
open Go Go.ChangeShapes Go.WideShapes Go.ChangeAt Go.RowKit
section
variable {H : Type} {enc : TypeId × Value → H} {W : World} {base : Nat} {v : Value} {d : DataW H} {ps : List MemPlace}
theorem tree_arg(hv:Value.okWide Tryz.prog W .any base 27 v)(h:DataW.Trod enc Tryz.prog W 0 (fun _=>true) true 27 v d ps):∃ fs:List FileM,FRow W v fs:=
 frow_of_trod Tryz.underlying27 Tryz.underlying71 (by kernel_rfl) (by kernel_rfl) rfl rfl rfl Tryz.underlying9 Tryz.underlying69 Tryz.underlying9 (by kernel_rfl) hv h
theorem tree_cell{n:Nat}{x:Value}{y:DataW H × List MemPlace}(k:Cell.okWide Tryz.prog W .any base 27 x)(h:DataW.trod enc Tryz.prog W 0 (fun _=>true) true n 27 [x]=some y):∃(a:Option Addr) (n c:Nat) (fs:List FileM),x=.slice a n c∧FRow W (.slice a n c) fs:=by
 have w0:Value.okWide Tryz.prog W .any base 27 x:=by simp only [Value.okWide,Tryz.underlying27];exact k
 have ht:DataW.Trod enc Tryz.prog W 0 (fun _=>true) true 27 x y.1 y.2:=by
  cases x with
  | agg cs =>exfalso;simp [Cell.okWide,Cell.ok,Tryz.underlying27] at k
  | _=>exact⟨n,h⟩
 obtain⟨fs,hf⟩:=tree_arg w0 ht;obtain⟨a,c,e,_⟩:=hf.form;subst e;exact⟨a,_,c,fs,rfl,hf⟩
theorem trees_arg(hv:Value.okWide Tryz.prog W .any base 67 v)(h:DataW.Trod enc Tryz.prog W 0 (fun _=>true) true 67 v d ps):∃(a1 a2 a3:Option Addr) (n1 n2 n3 c1 c2 c3:Nat) (ta tb tc:List FileM),v=.agg #[.slice a1 n1 c1,.slice a2 n2 c2,.slice a3 n3 c3]∧FRow W (.slice a1 n1 c1) ta∧FRow W (.slice a2 n2 c2) tb∧FRow W (.slice a3 n3 c3) tc:=by
 simp only [Value.okWide,Tryz.underlying67] at hv;obtain⟨cs,rfl,hsz,ts,hts,_,hc⟩:=hv;have hts2:Tryz.prog.cellTypes Tryz.prog.depth 67=some [27,27,27]:=by kernel_rfl
 rw [hts2] at hts;have e2:=Option.some.inj hts;subst e2;have hsz3:cs.size=3:=hsz.trans (by kernel_rfl);obtain⟨x0,x1,x2,rfl⟩:∃ x0 x1 x2,cs=#[x0,x1,x2]:=by
  obtain⟨l⟩:=cs
  match l,hsz3 with
  | [x0,x1,x2],_=>exact⟨x0,x1,x2,rfl⟩
 obtain⟨u0,g0,k0⟩:=hc 0 x0 rfl;obtain⟨u1,g1,k1⟩:=hc 1 x1 rfl;obtain⟨u2,g2,k2⟩:=hc 2 x2 rfl;have g0:=Option.some.inj g0;have g1:=Option.some.inj g1;have g2:=Option.some.inj g2;subst g0 g1 g2;obtain⟨fuel,hf⟩:=h;have hf':DataW.trod enc Tryz.prog W 0 (fun _=>true) true fuel 67 [x0,x1,x2]=some _:=hf;obtain⟨y0,y1,y2,n,_,t0,t1,t2⟩:=Go.ChangeShapes.trod_array3 Tryz.underlying67 (by kernel_rfl) hf';obtain⟨a1,n1,c1,ta,rfl,f1⟩:=tree_cell k0 t0;obtain⟨a2,n2,c2,tb,rfl,f2⟩:=tree_cell k1 t1;obtain⟨a3,n3,c3,tc,rfl,f3⟩:=tree_cell k2 t2;exact⟨a1,a2,a3,n1,n2,n3,c1,c2,c3,ta,tb,tc,rfl,f1,f2,f3⟩
end
end Go.Proofs.YtjccmcgglfncdaaGreatDoor
set_option maxRecDepth 100000
set_option maxHeartbeats 40000000
namespace Go.Proofs.YtjccmcgglfncdaaGreatDoor
open Go Go.ChangeShapes Go.WideShapes Go.ChangeAt Go.RowKit
open Go.ChangeMaps (open_string)
theorem own:ownKnob Tryz.prog.godebug=none:=by kernel_rfl
theorem gTab : Tryz.prog.globalNamed "internal/strconv.uint64pow10" = some 1 := by kernel_rfl
theorem gTabT:(Tryz.prog.globals[1]?).map (·.type)=some 353:=by kernel_rfl
theorem tab_eq:(Rows.laid_internal_strconv_uint64pow10:DataW Unit)=Lib.tabData .u64 Lib.pow10Tab:=by kernel_rfl
theorem tab_of{W:World}(hL:laidMet Tryz.prog Rows.mergeTurnsRow.laid W):Tab W:=by have h := hL.filter (fun x => x.1 == "internal/strconv.uint64pow10");rw [show Rows.mergeTurnsRow.laid.filter (fun x => x.1 == "internal/strconv.uint64pow10") = [("internal/strconv.uint64pow10", Rows.laid_internal_strconv_uint64pow10)] from by kernel_rfl, tab_eq] at h;exact Lib.tabIs_of_head gTab gTabT Tryz.underlying353 Tryz.underlying264 (by kernel_rfl) (by kernel_rfl) h
theorem contract_MergeTurns(H:Type)(enc:TypeId × Value→H)(W:World)(base:Nat)(args:Array Value)(ds gs:List (DataW H))(before:List MemPlace)
  (hval:∀(j:Nat) t v,Tryz.f7.params[j]? = some t→args[j]? = some v→Value.okWide Tryz.prog W .any base t v)
  (hW:DataW.Whole enc Tryz.prog Tryz.f7.params.toList Rows.mergeTurnsSpec.vars false W args.toList ds gs before) (hL:laidMet Tryz.prog Rows.mergeTurnsRow.laid W) :
  Calls Tryz.prog 7 args W fun e W'=>∃ v,e=.returned v∧Rows.mergeTurnsSpec.post enc Tryz.prog Tryz.f7 false true false false W args v W':=by have hW':=hW;obtain⟨p,q,hA0,hV,rfl,hfz,hnd⟩:=hW;have hA:DataW.TrodAll enc Tryz.prog W 0 (fun _=>true) true Tryz.f7.params.toList args.toList ds p:=hA0;rw [Tryz.params7] at hA hval;obtain⟨v0,d0,rfl,rfl,h0⟩:=trodAll_one hA;obtain⟨rfl,rfl⟩:=trodVars_none hV;obtain⟨a1,a2,a3,n1,n2,n3,c1,c2,c3,ta,tb,tc,rfl,ha,hb,hc⟩:=trees_arg (hval 0 67 v0 rfl rfl) h0;refine(mtturns_any a1 a2 a3 n1 n2 n3 c1 c2 c3 ta tb tc W ha hb hc (tab_of hL)).mono fun e W' ⟨he,hb⟩=>⟨_,he,?_⟩;exact law_post (by kernel_rfl) Tryz.underlying4 rfl laidOut (by kernel_rfl) rfl hW' hb
def putCells(cs:Array Value):Obj→Obj
 | .cells _ t fr=>.cells cs t fr
 | o=>o
def cells_laid_math_bits_deBruijn32tab:Array Value:=#[.int .u8 0,.int .u8 1,.int .u8 28,.int .u8 2,.int .u8 29,.int .u8 14,.int .u8 24,.int .u8 3,.int .u8 30,.int .u8 22,.int .u8 20,.int .u8 15,.int .u8 25,.int .u8 17,.int .u8 4,.int .u8 8,.int .u8 31,.int .u8 27,.int .u8 13,.int .u8 23,.int .u8 21,.int .u8 19,.int .u8 16,.int .u8 7,.int .u8 26,.int .u8 12,.int .u8 18,.int .u8 6,.int .u8 11,.int .u8 5,.int .u8 10,.int .u8 9]
def cells_laid_math_bits_deBruijn64tab:Array Value:=#[.int .u8 0,.int .u8 1,.int .u8 56,.int .u8 2,.int .u8 57,.int .u8 49,.int .u8 28,.int .u8 3,.int .u8 61,.int .u8 58,.int .u8 42,.int .u8 50,.int .u8 38,.int .u8 29,.int .u8 17,.int .u8 4,.int .u8 62,.int .u8 47,.int .u8 59,.int .u8 36,.int .u8 45,.int .u8 43,.int .u8 51,.int .u8 22,.int .u8 53,.int .u8 39,.int .u8 33,.int .u8 30,.int .u8 24,.int .u8 18,.int .u8 12,.int .u8 5,.int .u8 63,.int .u8 55,.int .u8 48,.int .u8 27,.int .u8 60,.int .u8 41,.int .u8 37,.int .u8 16,.int .u8 46,.int .u8 35,.int .u8 44,.int .u8 21,.int .u8 52,.int .u8 32,.int .u8 23,.int .u8 11,.int .u8 54,.int .u8 26,.int .u8 40,.int .u8 15,.int .u8 34,.int .u8 20,.int .u8 31,.int .u8 10,.int .u8 25,.int .u8 14,.int .u8 19,.int .u8 9,.int .u8 13,.int .u8 8,.int .u8 7,.int .u8 6]
def cells_laid_internal_strconv_uint64pow10:Array Value:=#[.int .u64 1,.int .u64 10,.int .u64 100,.int .u64 1000,.int .u64 10000,.int .u64 100000,.int .u64 1000000,.int .u64 10000000,.int .u64 100000000,.int .u64 1000000000,.int .u64 10000000000,.int .u64 100000000000,.int .u64 1000000000000,.int .u64 10000000000000,.int .u64 100000000000000,.int .u64 1000000000000000,.int .u64 10000000000000000,.int .u64 100000000000000000,.int .u64 1000000000000000000,.int .u64 10000000000000000000]
noncomputable def laidWorld(os:Os):World:=
 {(World.holding Tryz.prog os ⟨#[],#[],[]⟩) with heap:=((((World.holding Tryz.prog os ⟨#[],#[],[]⟩).heap.modify 2 (putCells cells_laid_math_bits_deBruijn32tab)).modify 3 (putCells cells_laid_math_bits_deBruijn64tab)).modify 1 (putCells cells_laid_internal_strconv_uint64pow10))}
theorem plain_of{b:Bool}{f0:FuncId}{fn0:Func}{name:String}(h0:Tryz.prog.funcNamed name=some f0)(h1:Tryz.prog.funcs[f0]? = some fn0)(h2:fn0.params.toList.all (fun t => !Tryz.prog.wantsStandIn t)=true)
  (h3:b=Tryz.pinned.checked.prog.looks []) (f:FuncId) (fn:Func) (hf:Tryz.pinned.checked.prog.funcNamed name=some f) (hfn:Tryz.pinned.checked.prog.funcs[f]? = some fn) :
  b=Tryz.pinned.checked.prog.looks []∧∀(j:Nat) t,fn.params[j]? = some t→Tryz.pinned.checked.prog.wantsStandIn t=false:=by
 obtain rfl:f=f0:=Option.some.inj ((show Tryz.prog.funcNamed name=some f0 from h0).symm.trans hf) |>.symm
 obtain rfl:fn=fn0:=(Option.some.inj (h1.symm.trans hfn)).symm;refine⟨h3,fun j t ht => ?_⟩;have:=List.all_eq_true.1 h2 t (by simpa using Array.mem_of_getElem? ht);show Tryz.prog.wantsStandIn t=false;simpa using this
namespace fnMergeTurns
theorem laid_met(os:Os):laidMet Tryz.prog Rows.mergeTurnsRow.laid ((laidWorld os).forCall (fun _ _=>0) ⟨#[],#[.agg #[.slice none 0 0,.slice none 0 0,.slice none 0 0]],[]⟩).memory:=
 laidMet_of_run' 8 (by kernel_rfl) (by kernel_rfl)
theorem reads(os:Os){H:Type}(enc:TypeId × Value→H):∃ places,DataW.whole enc Tryz.prog ((laidWorld os).forCall (fun _ _=>0) ⟨#[],#[.agg #[.slice none 0 0,.slice none 0 0,.slice none 0 0]],[]⟩).memory Tryz.f7.params.toList Rows.mergeTurnsSpec.vars false (#[.agg #[.slice none 0 0,.slice none 0 0,.slice none 0 0]]:Array Value).toList 8=some ([.agg [.nil,.nil,.nil]],[],places):=
 ⟨[],by kernel_rfl⟩
theorem lifted(os:Os)(started:os.Started)(H:Type)(enc:TypeId × Value→H)(F:Stop.Interp) :
  ReturnsInHanded {} Tryz.checked os 7 .any ((OpenSpec.ofChange Rows.mergeTurnsSpec).preRow enc Tryz.prog Tryz.f7 Rows.mergeTurnsRow.domain false Rows.mergeTurnsRow.laid) (((OpenSpec.ofChange Rows.mergeTurnsSpec).at F).post enc Tryz.prog Tryz.f7 false true false false):=by
 obtain⟨places,hx⟩:=reads os enc;refine returnsInHanded_of_row (C:=Tryz.checked) (s:=OpenSpec.ofChange Rows.mergeTurnsSpec) own started (by kernel_rfl) Tryz.func7
  (witness_row_at (enc:=enc) (C:=Tryz.checked) false (laidWorld os) #[.agg #[.slice none 0 0,.slice none 0 0,.slice none 0 0]] rfl (by kernel_rfl) (by kernel_rfl) (by kernel_rfl)
   (OpenSpec.preRow_of_cond 8 hx (by kernel_rfl) (fun k hk=>by cases hk) (by kernel_rfl) (laid_met os))) ?_
 intro W base args ds gs before hval hW _ _ _ hL _ _;exact contract_MergeTurns H enc W base args ds gs before hval hW hL
theorem c_laid:laidOutB Tryz.pinned.checked.prog=true:=by kernel_rfl
theorem c_maps:mapsRowed Tryz.pinned.checked.prog=true:=by kernel_rfl
theorem c_in:(Rows.mergeTurnsRow.inPlace == Tryz.pinned.checked.prog.inPlace 7)=true:=by kernel_rfl
theorem c_unf:(Rows.mergeTurnsRow.unfollowed == Tryz.pinned.checked.prog.unfollowed 7)=true:=by kernel_rfl
theorem c_rec:(Rows.mergeTurnsRow.recurses == Tryz.pinned.checked.prog.recurses 7)=true:=by kernel_rfl
theorem c_nam:(Rows.mergeTurnsRow.named == Tryz.pinned.checked.prog.varsNamed 7)=true:=by kernel_rfl
theorem c_keys:(Rows.mergeTurnsRow.plainKeys == Tryz.pinned.checked.prog.plainKeys)=true:=by kernel_rfl
theorem c_heard:Tryz.pinned.checked.prog.stopsHeard=true:=by kernel_rfl
theorem c_may:Tryz.pinned.checked.prog.mayEnter=true:=by kernel_rfl
theorem c_lift:(Rows.mergeTurnsRow.lifted == Tryz.pinned.checked.prog.liftsFinal)=true:=by kernel_rfl
theorem closed:joinedFacts Tryz.pinned.checked.prog 7 Tryz.f7 (OpenSpec.ofChange Rows.mergeTurnsSpec).bare Rows.mergeTurnsRow=true:=by
 unfold joinedFacts;simp only [Bool.and_eq_true]
 repeat' apply And.intro
 all_goals with_reducible first|exact c_laid|exact c_maps|exact c_in|exact c_unf|exact c_rec|exact c_nam|exact c_keys|exact c_heard|exact c_may|exact c_lift|kernel_rfl
theorem said:Rows.MergeTurnsSaid:=
 OpenClaim.holds_of_cond 7 Tryz.f7 rfl rfl rfl rfl rfl rfl rfl ⟨rfl,rfl,rfl,rfl,rfl⟩ rfl rfl rfl rfl rfl (by kernel_rfl) Tryz.func7 closed
  (of_decide_eq_true (by kernel_rfl)) (by unfold Func.isWrapper;first|(rw [if_pos (by decide +kernel)];kernel_rfl)|(rw [if_neg (by decide +kernel)];exact⟨rfl,rfl⟩))
  (fun os started H enc _ F=>by rw [OpenClaim.pre_eq_preRow];exact lifted os started H enc F)
theorem c_wf:Rows.mergeTurnsRow.wfByText (OpenSpec.ofChange Rows.mergeTurnsSpec)=true:=by kernel_rfl
theorem c_main:Tryz.pinned.checked.prog.mainIs=some (Rows.mergeTurnsCard.stood.harness.1,Rows.mergeTurnsCard.stood.harness.2.toList):=by kernel_rfl
theorem c_looks:false=Tryz.pinned.checked.prog.looks []:=by kernel_rfl
theorem c_goes:false=Rows.mergeTurnsRow.goesBy Tryz.pinned.checked.prog:=by kernel_rfl
theorem c_funcNamed : Tryz.prog.funcNamed "bruit/bruitlaw55.MergeTurns" = some 7 := by kernel_rfl
theorem c_params:Tryz.f7.params.toList.all (fun t => !Tryz.prog.wantsStandIn t)=true:=by kernel_rfl
theorem card:Rows.MergeTurnsCardSaid:=
 Claim7.holds_tied_plain_at .later [] _ _ _ _ said (fun _ h=>by cases h) c_wf (fun _ h=>by cases h) mergeTurns_row_tie rfl ⟨rfl,rfl⟩ c_main rfl (plain_of c_funcNamed Tryz.func7 c_params c_looks) c_goes
end fnMergeTurns
end Go.Proofs.YtjccmcgglfncdaaGreatDoor
