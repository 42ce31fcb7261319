/- Part of the proof that any graph's tree, and what is at odds in it, are as the document says. No conditions. -/
import Derived.Test.YtanfebljiblhbaaGreatDoorURnC
import Derived.Test.YtanfebljiblhbaaGreatDoorUNsD
import Derived.Test.YtanfebljiblhbaaGreatDoorURShoB
set_option linter.unusedVariables false
set_option linter.unusedSimpArgs false
set_option maxRecDepth 100000
set_option maxHeartbeats 40000000
namespace Go.Proofs.YtanfebljiblhbaaGreatDoor
open Go Go.RowKit
section
theorem rname_at{w:World}{B:Nat}{v:Value}{ns:List NameM}(h:RNames w B v ns):∃(xs:List LaidN) (a:Option Addr) (cap:Nat),xs.map (·.n)=ns∧v=.slice a ns.length cap∧ns.length≤cap∧cap≤maxLen∧(∀ x∈xs,NameAt w B x)∧(ns.length=0∨∃ b off,a=some ⟨b,off,none⟩∧b<w.heap.size ∧
  ∀ i x,xs[i]? = some x→∀ W,Be w W→b<W.heap.size∧∀ j u,(encN x)[j]? = some u→W.cell? ⟨b,off+i*6+j,none⟩=some u):=by obtain⟨xs,rfl,h2,h3⟩:=h;obtain⟨a,cap,e1,e2,e3,e4⟩:=h2.row.at encN_len;rw [List.length_map];exact⟨xs,a,cap,rfl,e1,e2,e3,h3,e4⟩
def RflRel(L:List PatchM)(w2:World)(v3 v5:Value)(wr:World):Prop:=∃ k:Nat,k≤(allM L).length∧v5=.int .i64 k∧Hid (GOwn encFl 4 129 wr w2.heap.size v3 (flwTo L k))∧Hid (Be w2 wr)
def RfkRel(n:NameM)(pre:List FlawM)(w2:World)(v3 v8:Value)(wr:World):Prop:=∃ j:Nat,j≤n.flaws.length∧v8=.int .i64 j∧Hid (GOwn encFl 4 129 wr w2.heap.size v3 (pre++kindsF n j))∧Hid (Be w2 wr)
def RfoCut(pre:List FlawM)(w2:World)(s3:Value)(wx:World):Prop:=Hid (GOwn encFl 4 129 wx w2.heap.size s3 pre)∧Hid (Be w2 wx)
attribute [local irreducible] allM fileT idsM linesM relM edgesM flawsM flwTo kindsF oddF oddN
theorem rflaws25_any(gv:Value)(xs:List LaidP)(w:World)(hv:Pats w gv xs)(hn:xs.length≤300)(hl:∀ x∈xs,x.p.ops.length≤260)(hw:WfG (patsOf xs))(hil:(idsM (patsOf xs)).length≤65536)(hel:(edgesM (patsOf xs)).length≤100000) :
  Calls Tryz.prog 26 #[rgV gv] w (OwnRes encFl 4 129 w (flawsM (patsOf xs))):=by
 have HV:=Lh hv;have HLs:=Lh hl;have HW:=Lh hw;have hil2:=hil;have HAll:=Lh (rall24_any gv xs · · hn hw (by omega));have HOf:Hid (∀(f:VidM) (W:World),Pats W gv xs→Calls Tryz.prog 44 #[rgV gv,vidV f] W (R21Res W (linesM (patsOf xs) f) (relM (patsOf xs) f))):=Lh fun f W h=>r21of_any gv xs f W h hn hl hw hil hel;obtain⟨L,hL⟩:∃ L,patsOf xs=L:=⟨_,rfl⟩;rw [hL] at HAll HW HOf hil hel ⊢;have hal:=all_few hil;have HLL:Hid (∀ f,(linesM L f).length≤65536):=Lh fun f=>lines_few hil;have HG:=Lh (anw w #[gv] 33);have HB:=Lh (bnew (w:=w) (.cells #[gv] 33));clear hv hl hw hL hil2;unfold rgV at HOf HAll ⊢;go_enter Tryz.func26,Tryz.ntmps26;go_upto_region 1 with fail;generalize w.alloc (.cells #[gv] 33)=w0 at *;obtain⟨g0,sg⟩:=HG.o.c1;go_wp2_with fail;refine(HAll.o w0 (HV.o.over HB.o)).mono ?_;rintro e w2 ⟨v4,rfl,ho,hb⟩;obtain⟨ns,a,cap,hns,rfl,t1,t2,hna,hc⟩:=rname_at ho;unfold maxLen at t2;have HNS:=Lh hns;have HNA:=Lh hna;have HC:=Lh hc;have HB2:=Lh (bvo HB.o hb);have HG2:=Lh (HG.o.over hb);have HV2:=Lh (HV.o.over HB2.o);have hs2:w.heap.size≤w2.heap.size:=HB2.o.size;have hs0:w.heap.size≤w0.heap.size:=HB.o.size;clear ho hb hna hc hns g0 sg HB HV HAll HG;go_wp2;go_loopw [3,5] (fun v3 v5 wr=>RflRel L w2 v3 v5 wr) (fun _ v5 _=>(allM L).length - (intOf v5).toNat)
 case atStart=>exact⟨0,Nat.zero_le _,rfl,Lh (by rw [flwTo_zero];exact gown_nil _ _),Below.refl _ _⟩
 obtain⟨k,hk,rfl,HO,HBr⟩:=hrel;rename World=>wr
 by_cases hlt:k<(allM L).length
 rotate_left
 ·
  obtain rfl:k=(allM L).length:=by omega
  go_wp2;go_ret;exact⟨_,rfl,gown_list (HO.o.base hs2) (flwTo_all L),bov HB2.o hs2 HBr.o⟩
 obtain⟨b3,off3,rfl,sb3,hcb⟩:=HC.o.resolve_left (by omega);obtain⟨x,hx⟩:=gol (show k<ns.length by rw [← List.length_map (·.n),HNS.o];exact hlt);have HXk:Hid ((allM L)[k]? = some x.n):=Lh (by rw [← HNS.o,List.getElem?_map,hx];rfl);have HNx:=Lh (HNA.o x (List.mem_of_getElem? hx)).2;have hfw:x.n.flaws.length≤2:=flaws_all L _ (Nat.le_refl _) x.n (by have:=List.mem_of_getElem? HXk.o;unfold allM at this;exact this);have hft:=flwTo_few L k;have HUW:=Lh (hcb k x hx);have HU:=Lh (HUW.o wr HBr.o);have HVr:=Lh (HV2.o.over HBr.o);have HGr:=Lh (HG2.o.over HBr.o);obtain⟨g0,sg⟩:=HGr.o.c1;obtain⟨u0,u1,u2,su⟩:=rc3 HU.o;clear hcb hx;go_upto_region 6 with fail;refine wlo 12 fun hcur=>?_;repeat(first|refine lxq ?_|(refine lxl rfl ?_;go_wp2_with (first|(go_at_call 44;(with_reducible refine(HOf.o x.n.file _ (HVr.o.over hcur)).mono ?_);rintro e wA ⟨lA,sA,rfl,hA,hb⟩;have HSA:=Lh hA;replace hcur:=bvo hcur hb;clear hb hA)|(go_at_call 60;(with_reducible refine(rlines_any lA sA _ _ _ HSA.o (HLL.o x.n.file)).mono ?_);rintro e wB ⟨vB,rfl,hoB,hb⟩;have HLB:=Lh (hoB.base hcur.size);replace hcur:=bvo hcur hb;clear hb hoB));refine⟨iov hcur,?_⟩))
 refine lxe ?_;have HBw9:=Lh (bvo HBr.o hcur);have HO9:=Lh (HO.o.over hcur);have ho9:lnOdd (linesM L x.n.file) (relM L x.n.file)=oddN L x.n:=by unfold oddN;rfl
 rw [ho9];obtain⟨o,ho⟩:∃ o,oddN L x.n=o:=⟨_,rfl⟩;rw [ho];have HOd:=Lh ho;obtain⟨pB,cB,rfl⟩:=own_sl HLB.o;have hB9:w2.heap.size≤wB.heap.size:=HBw9.o.size;clear ho ho9 HO g0 sg u0 u1 u2 su hcur HSA;have HU9:=Lh (HUW.o wB HBw9.o);obtain⟨u0,u1,u2,su⟩:=rc3 HU9.o;go_upto_if 29 with fail;obtain⟨c,hc⟩:∃ c,decide (0<o)=c:=⟨_,rfl⟩;rw [hc];go_cut [3] (fun s3 wx=>RfoCut (flwTo L k++oddF L x.n) w2 s3 wx)
 case first =>
  cases c with
  | true =>have HD:=Lh (oddF_yes (L:=L) (n:=x.n) (by rw [HOd.o];exact of_decide_eq_true hc));have hN9:(flwTo L k).length+1≤1099511627776:=(by omega);clear hc;go_wp2_with (at_builtin;(first|refine apD slFlaw rfl _ _ rfl w2.heap.size _ _ (dad _ _ _) 1 _ _ _ HO9.o rfl rfl rfl rfl hN9 (by decide) hB9 ?_|refine apD slFlaw rfl _ _ rfl w2.heap.size _ _ (drf _) 1 _ _ _ HO9.o rfl rfl rfl rfl hN9 (by decide) hB9 ?_);intro v10 w10 ho10 hg10);go_meet;exact⟨Lh (by rw [HD.o];exact GOwn.snoc (enc:=encFl) (x:=(⟨1,x.n.file⟩:FlawM)) ho10),Lh (bgr HBw9.o hB9 HO9.o hg10)⟩
  | false =>have HD:=Lh (oddF_no (L:=L) (n:=x.n) (by rw [HOd.o];exact of_decide_eq_false hc));clear hc;go_wp2;go_meet;exact⟨Lh (by rw [HD.o,List.append_nil];exact HO9.o),HBw9⟩
 obtain⟨HO10,HB10⟩:=hcut;rename World=>wc;clear u0 u1 u2 su HO9 HBw9 HOd hB9 hc;obtain⟨af,cf,ef,tf1,tf2,hcf⟩:=HNx.o.row.at encU8_len;unfold maxLen at tf2;have HEf:=Lh ef;have HCf:=Lh hcf;have hod:(oddF L x.n).length≤1:=by unfold oddF;split <;> simp
 clear ef hcf;go_wp2;go_loopw [3,8] (fun v3 v8 wi=>RfkRel x.n (flwTo L k++oddF L x.n) w2 v3 v8 wi) (fun _ v8 _=>x.n.flaws.length - (intOf v8).toNat)
 case atStart=>exact⟨0,Nat.zero_le _,rfl,Lh (by rw [kindsF_zero,List.append_nil];exact HO10.o),HB10⟩
 obtain⟨j,hj,rfl,HOj,HBj⟩:=hrel;rename World=>wj;have HUj:=Lh (HUW.o wj HBj.o);obtain⟨u0,u1,u2,_⟩:=rc3 HUj.o;have u5:wj.cell? ⟨b3,off3+k*6+5,none⟩=some (.slice x.pf x.n.flaws.length x.cf):=(HUj.o).2 5 _ rfl;have su:=HUj.o.1;rw [HEf.o] at u5
 by_cases hlj:j<x.n.flaws.length
 rotate_left
 ·
  obtain rfl:j=x.n.flaws.length:=by omega
  go_wp2;go_roundw
  case rel=>exact⟨k+1,hlt,by go_num,Lh (gown_list HOj.o (by rw [flwTo_succ HXk.o,List.append_assoc])),HBj⟩
  simp [intOf];omega
 obtain⟨bf,ofs,rfl,sbf,hcb2⟩:=HCf.o.resolve_left (by omega);obtain⟨kd,hkd⟩:=gol hlj;have HKd:=Lh hkd;have z0:wj.cell? ⟨bf,ofs+j,none⟩=some (.int .u8 kd.toNat):=by have h:=(hcb2 j kd hkd wj HBj.o).2 0 _ rfl;rw [Nat.mul_one,Nat.add_zero] at h;exact h
 have sz:=(hcb2 j kd hkd wj HBj.o).1;have HN:Hid ((flwTo L k++oddF L x.n++kindsF x.n j).length+1≤1099511627776):=Lh (by rw [List.length_append,List.length_append];have:=kindsF_few x.n j;omega);clear hcb2 hkd;go_upto_region 12 with fail;refine wlo 16 fun hcur=>?_;repeat(first|refine lxq ?_|(refine lxl rfl ?_;go_wp2_with (first|(fail));refine⟨iov (by first|exact hcur|exact hcur.alloc hcur.size _),?_⟩))
 refine lxe ?_;have HOh:=Lh (HOj.o.over hcur);have HBh:=Lh (bvo HBj.o hcur);have hB:=HBh.o.size;have hN:=HN.o;clear hcur;go_wp2_with (at_builtin;(first|refine apD slFlaw rfl _ _ rfl w2.heap.size _ _ (dad _ _ _) 1 _ _ _ HOh.o rfl rfl rfl rfl hN (by decide) hB ?_|refine apD slFlaw rfl _ _ rfl w2.heap.size _ _ (drf _) 1 _ _ _ HOh.o rfl rfl rfl rfl hN (by decide) hB ?_);intro v11 w11 ho11 hg11);go_roundw
 case rel=>exact⟨j+1,hlj,by go_num,Lh (gown_list (GOwn.snoc (enc:=encFl) (x:=(⟨kd,x.n.file⟩:FlawM)) ho11) (by rw [kindsF_succ HKd.o,List.append_assoc])),Lh (bgr HBj.o hB HOj.o hg11)⟩
 simp [intOf];omega
end
section
def RTreeRes(w:World)(L:List PatchM)(e:Ending)(w':World):Prop:=∃ v t,e=.returned v∧IsTree L t∧FilesW w' w.heap.size v t∧Be w w'
def RtrRel(L:List PatchM)(w w2:World)(v3 v5:Value)(wr:World):Prop:=∃(k:Nat) (xs:List LaidF),k≤(allM L).length∧v5=.int .i64 k∧xs.length=k∧Hid (xs.map (·.f)=treeTo L ((allM L).take k))∧Hid (GOwn encL 3 66 wr w2.heap.size v3 xs)∧Hid (∀ x∈xs,FileAt wr w.heap.size x)∧Hid (Be w2 wr)
def lessF(y x:LaidF):Bool:=ltB y.f.name x.f.name
def RtiRel(xs:List LaidF)(y:LaidF)(wi:World)(v9 v10 v11:Value)(wr:World):Prop:=∃(j:Nat) (q:Bool),j≤xs.length∧v11=.int .i64 j∧v10=.bool q∧Hid (q=anyTo (lessF y) xs j)∧Hid (GOwn encL 3 66 wr wi.heap.size v9 (insQ (lessF y) y xs j))∧Hid (Be wi wr)
def BxCut(wr:World)(y:LaidF)(s8:Value)(wx:World):Prop:=∃ g,s8=.pointer (some ⟨g,0,none⟩)∧Hid (ArrT wx g 66 (encL y))∧Hid (Be wr wx)
theorem insP_laid(y:LaidF)(l:List LaidF):(insP (lessF y) y l).map (·.f)=putF y.f (l.map (·.f)):=by rw [putF_is];exact insP_map (p:=lessF y) (q:=fun x=>ltB y.f.name x.name) (g:=fun x:LaidF=>x.f) (fun x=>rfl) l
theorem balloc26{w w':World}(h:Be w w')(o:Obj):Be w (w'.alloc o):=h.alloc h.size o
attribute [local irreducible] allM fileT idsM linesM relM edgesM treeTo insQ insP anyTo lessF
theorem rtree25_any(gv:Value)(xs:List LaidP)(w:World)(hv:Pats w gv xs)(hn:xs.length≤300)(hl:∀ x∈xs,x.p.ops.length≤260)(hw:WfG (patsOf xs))(hil:(idsM (patsOf xs)).length≤65536)(hel:(edgesM (patsOf xs)).length≤100000) :
  Calls Tryz.prog 23 #[rgV gv] w (RTreeRes w (patsOf xs)):=by
 have HV:=Lh hv;have HLs:=Lh hl;have HW:=Lh hw;have hil2:=hil;have HAll:=Lh (rall24_any gv xs · · hn hw (by omega));have HOf:Hid (∀(f:VidM) (W:World),Pats W gv xs→Calls Tryz.prog 44 #[rgV gv,vidV f] W (R21Res W (linesM (patsOf xs) f) (relM (patsOf xs) f))):=Lh fun f W h=>r21of_any gv xs f W h hn hl hw hil hel;obtain⟨L,hL⟩:∃ L,patsOf xs=L:=⟨_,rfl⟩;rw [hL] at HAll HW HOf hil hel ⊢;have hal:=all_few hil;have HLL:Hid (∀ f,(linesM L f).length≤65536):=Lh fun f=>lines_few hil;have HG:=Lh (anw w #[gv] 33);have HB:=Lh (bnew (w:=w) (.cells #[gv] 33));clear hv hl hw hL hil2;unfold rgV at HOf HAll ⊢;go_enter Tryz.func23,Tryz.ntmps23;go_upto_region 1 with fail;generalize w.alloc (.cells #[gv] 33)=w0 at *;obtain⟨g0,sg⟩:=HG.o.c1;go_wp2_with fail;refine(HAll.o w0 (HV.o.over HB.o)).mono ?_;rintro e w2 ⟨v4,rfl,ho,hb⟩;obtain⟨ns,a,cap,hns,rfl,t1,t2,hna,hc⟩:=rname_at ho;unfold maxLen at t2;have HNS:=Lh hns;have HNA:=Lh hna;have HC:=Lh hc;have HB2:=Lh (bvo HB.o hb);have HG2:=Lh (HG.o.over hb);have HV2:=Lh (HV.o.over HB2.o);have hs2:w.heap.size≤w2.heap.size:=HB2.o.size;have hs0:w.heap.size≤w0.heap.size:=HB.o.size;clear ho hb hna hc hns g0 sg HB HV HAll HG;go_wp2;go_loopw [3,5] (fun v3 v5 wr=>RtrRel L w w2 v3 v5 wr) (fun _ v5 _=>(allM L).length - (intOf v5).toNat)
 case atStart=>exact⟨0,[],Nat.zero_le _,rfl,rfl,Lh (by rw [List.take_zero];unfold treeTo;rfl),gown_nil _ _,Lh fun x hx=>absurd hx List.not_mem_nil,Below.refl _ _⟩
 obtain⟨k,fs,hk,rfl,hfk,HX,HO,HF,HBr⟩:=hrel;rename World=>wr;have HFK:=Lh hfk
 by_cases hlt:k<(allM L).length
 rotate_left
 ·
  obtain rfl:k=(allM L).length:=by omega
  go_wp2;go_ret;exact⟨_,_,rfl,by rw [HX.o,List.take_length];exact treeTo_is HW.o,⟨fs,rfl,HO.o.base hs2,HF.o⟩,bov HB2.o hs2 HBr.o⟩
 obtain⟨b3,off3,rfl,sb3,hcb⟩:=HC.o.resolve_left (by omega);obtain⟨x,hx⟩:=gol (show k<ns.length by rw [← List.length_map (·.n),HNS.o];exact hlt);have HXk:Hid ((allM L)[k]? = some x.n):=Lh (by rw [← HNS.o,List.getElem?_map,hx];rfl);have HNx:Hid (NameAt w2 w.heap.size x):=Lh ⟨(HNA.o x (List.mem_of_getElem? hx)).1.base hs0,(HNA.o x (List.mem_of_getElem? hx)).2.base hs0⟩;have HUW:=Lh (hcb k x hx);have HU:=Lh (HUW.o wr HBr.o);have HVr:=Lh (HV2.o.over HBr.o);have HGr:=Lh (HG2.o.over HBr.o);obtain⟨g0,sg⟩:=HGr.o.c1;obtain⟨u0,u1,u2,su⟩:=rc3 HU.o;clear hcb hx hfk;go_upto_region 6 with fail;refine wlo 12 fun hcur=>?_;repeat(first|refine lxq ?_|(refine lxl rfl ?_;go_wp2_with (first|(go_at_call 44;(with_reducible refine(HOf.o x.n.file _ (HVr.o.over hcur)).mono ?_);rintro e wA ⟨lA,sA,rfl,hA,hb⟩;have HSA:=Lh hA;replace hcur:=bvo hcur hb;clear hb hA)|(go_at_call 60;(with_reducible refine(rlines_any lA sA _ _ _ HSA.o (HLL.o x.n.file)).mono ?_);rintro e wB ⟨vB,rfl,hoB,hb⟩;have HLB:=Lh (hoB.base hcur.size);replace hcur:=bvo hcur hb;clear hb hoB));refine⟨iov hcur,?_⟩))
 refine lxe ?_;have HBw9:=Lh (bvo HBr.o hcur);have HO9:=Lh (HO.o.over hcur);have HF9:Hid (∀ x∈fs,FileAt wB w.heap.size x):=Lh fun x hx=>⟨(HF.o x hx).1.over hcur,(HF.o x hx).2.over hcur⟩;obtain⟨pB,cB,rfl⟩:=own_sl HLB.o;obtain⟨nB,hnB⟩:∃ n,n=(lnSeen (linesM L x.n.file) (relM L x.n.file)).length:=⟨_,rfl⟩;rw [← hnB] at HLB;rw [← hnB];have hrr:=HBr.o.size;have HY:Hid (FileAt wB w.heap.size (laidF L x pB cB)):=Lh (laidF_at (HNx.o.keep HBw9.o) hnB (HLB.o.base (by omega)));have HEn:=Lh (laidF_enc L x pB cB nB hnB);have HFn:Hid ((laidF L x pB cB).f=fileT L x.n):=Lh rfl;generalize laidF L x pB cB=y at HY HEn HFn;clear HO HF g0 sg u0 u1 u2 su hcur HSA hnB hrr;have HU9:=Lh (HUW.o wB HBw9.o);have u3:wB.cell? ⟨b3,off3+k*6+3,none⟩=some (.string x.n.name):=(HU9.o).2 3 _ rfl;have u4:wB.cell? ⟨b3,off3+k*6+4,none⟩=some (.slice x.pa x.n.also.length x.ca):=(HU9.o).2 4 _ rfl;have su:=HU9.o.1;go_upto_region 7 with fail;go_cut [8] (fun s8 wx=>BxCut wB y s8 wx)
 case first =>
  have HS:Hid (∀ w':World,Be wB w'→(w'.cell? ⟨b3,off3+k*6+3,none⟩=some (.string x.n.name)∧w'.cell? ⟨b3,off3+k*6+4,none⟩=some (.slice x.pa x.n.also.length x.ca)∧b3<w'.heap.size∧Be wB w')):=Lh fun w' hb=>⟨(hb.cell (p:=⟨b3,off3+k*6+3,none⟩) su).trans u3,(hb.cell (p:=⟨b3,off3+k*6+4,none⟩) su).trans u4,Nat.lt_of_lt_of_le su hb.size,hb⟩;go_region_held3 (fun w'=>w'.cell? ⟨b3,off3+k*6+3,none⟩=some (.string x.n.name)∧w'.cell? ⟨b3,off3+k*6+4,none⟩=some (.slice x.pa x.n.also.length x.ca)∧b3<w'.heap.size∧Be wB w') (first|(refine HS.o _ ?_;((repeat(first|exact Below.refl _ _|refine Below.drew ?_|refine balloc26 ?_ _|refine Below.setCell ?_ ?_ _|exact Nat.le_refl _));done))) (first|(fail));all_goals (rename_i J K hJ hK hHeld;clear hHeld;refine hK _ _ (Met.intro (hJ _ _ ?_));(repeat apply Exists.intro);refine⟨?_,rfl⟩)
  all_goals refine⟨wB.heap.size,rfl,Lh ?_,Lh ?_⟩
  all_goals first|exact((((balloc26 (Below.refl _ _).drew _).setCell (p:=⟨wB.heap.size,0,none⟩) (Nat.le_refl _) (.string x.n.name)).setCell (p:=⟨wB.heap.size,1,none⟩) (Nat.le_refl _) (.slice x.pa x.n.also.length x.ca)).setCell (p:=⟨wB.heap.size,2,none⟩) (Nat.le_refl _) (.slice pB nB cB))|exact(bnew _).drew|exact bnew _|(rw [HEn.o];first|exact((((arrT_new _ [.string ⟨#[]⟩,.slice none 0 0,.slice none 0 0] 66).set 0 (.string x.n.name)).set 1 (.slice x.pa x.n.also.length x.ca)).set 2 (.slice pB nB cB))|exact arrT_new wB [.string x.n.name,.slice x.pa x.n.also.length x.ca,.slice pB nB cB] 66)
 obtain⟨g8,rfl,HA8,HB8⟩:=hcut;rename World=>wi;have HAe:Hid (ArrT wi g8 66 [.string y.f.name,.slice y.pa y.f.also.length y.ca,.slice y.pl y.f.lines.length y.cl]):=HA8;have HO10:=Lh (HO9.o.over HB8.o);have HF10:Hid (∀ x∈fs,FileAt wi w.heap.size x):=Lh fun x hx=>⟨(HF9.o x hx).1.over HB8.o,(HF9.o x hx).2.over HB8.o⟩;have HY10:Hid (FileAt wi w.heap.size y):=Lh ⟨HY.o.1.over HB8.o,HY.o.2.over HB8.o⟩;have HBw10:=Lh (bvo HBw9.o HB8.o);clear HO9 HF9 HY HBw9 u3 u4 su;obtain⟨p3,c3,rfl⟩:=own_sl HO10.o;obtain⟨a3,cap3,e3,q1,q2,hc3⟩:=HO10.o.row.at encL_len;obtain⟨rfl,rfl⟩:p3=a3∧c3=cap3:=by cases e3;exact⟨rfl,rfl⟩
 unfold maxLen at q2;have HC3:=Lh hc3;clear e3 hc3;go_wp2;go_loopw [9,10,11] (fun v9 v10 v11 wq=>RtiRel fs y wi v9 v10 v11 wq) (fun _ _ v11 _=>fs.length - (intOf v11).toNat)
 case atStart=>exact⟨0,false,Nat.zero_le _,rfl,rfl,Lh (anyTo_zero fs).symm,Lh (by rw [insQ_zero];exact gown_nil _ _),Below.refl _ _⟩
 obtain⟨j,q,hj,rfl,rfl,HQ,HM,HBq⟩:=hrel;rename World=>wq;have HAq:=Lh (HAe.o.over HBq.o);obtain⟨a0,a1,a2,sa⟩:=HAq.o.arr.c3;have hkl:=insQ_len (p:=lessF y) (y:=y) fs j;have hfl:fs.length≤65536:=by have:=HFK.o;omega
 have hBq:wi.heap.size≤wq.heap.size:=HBq.o.size
 by_cases hlj:j<fs.length
 rotate_left
 ·
  obtain rfl:j=fs.length:=by omega
  have hi2:=HBw10.o.size;have HNew:Hid (∀ W,Be wi W→∀ v∈insP (lessF y) y fs,FileAt W w.heap.size v):=Lh fun W hb v hv=>by
   rcases insP_mem hv with rfl|hv
   · exact⟨HY10.o.1.over hb,HY10.o.2.over hb⟩
   exact⟨(HF10.o v hv).1.over hb,(HF10.o v hv).2.over hb⟩
  have HMap:Hid ((insP (lessF y) y fs).map (·.f)=treeTo L ((allM L).take (k+1))):=Lh (by rw [take_succ' HXk.o,treeTo_snoc,insP_laid,HX.o,HFn.o]);have HLen:Hid ((insP (lessF y) y fs).length=k+1):=Lh (by rw [insP_len,HFK.o]);cases q with
  | true =>
   have HT:=Lh (insQ_there (y:=y) fs HQ.o.symm);go_wp2;go_roundw
   case rel=>exact⟨k+1,insP (lessF y) y fs,hlt,by go_num,HLen.o,HMap,Lh (by rw [← HT.o];exact HM.o.base hi2),Lh (HNew.o _ HBq.o),Lh (bov HBw10.o hi2 HBq.o)⟩
   simp [intOf];omega
  | false =>
   have HT:=Lh (insQ_not (y:=y) fs HQ.o.symm);have hN:(insQ (lessF y) y fs fs.length).length+1≤1099511627776:=(by omega);go_wp2_with (at_builtin;(first|refine apD slFile rfl _ _ rfl wi.heap.size _ _ (dad _ _ _) 1 _ _ _ HM.o rfl rfl rfl rfl hN (by decide) hBq ?_|refine apD slFile rfl _ _ rfl wi.heap.size _ _ (drf _) 1 _ _ _ HM.o rfl rfl rfl rfl hN (by decide) hBq ?_);intro v12 w12 ho12 hg12);have HB12:=Lh (bgr HBq.o hBq HM.o hg12);go_roundw
   case rel=>exact⟨k+1,insP (lessF y) y fs,hlt,by go_num,HLen.o,HMap,Lh (by rw [← HT.o];exact GOwn.base (GOwn.snoc (enc:=encL) (x:=y) ho12) hi2),Lh (HNew.o _ HB12.o),Lh (bov HBw10.o hi2 HB12.o)⟩
   simp [intOf];omega
 obtain⟨bz,oz,rfl,sbz,hcz⟩:=HC3.o.resolve_left (by omega);obtain⟨z,hz⟩:=gol hlj;have HZ:=Lh hz;have HZW:=Lh (hcz j z hz);have HZq:=Lh (HZW.o wq HBq.o);obtain⟨z0,z1,z2,sz⟩:=rc3 HZq.o;clear hcz hz;go_upto_region 13 with fail;cases q with
 | true =>
  have HP:=Lh (insQ_plain (y:=y) HZ.o (.inl HQ.o.symm));have HQ2:Hid (true=anyTo (lessF y) fs (j+1)):=Lh (by rw [anyTo_succ HZ.o,← HQ.o];rfl);refine wlo 12 fun hcur=>?_;repeat refine lxq ?_
  refine lxe ?_;have HMh:=Lh (HM.o.over hcur);have HBh:=Lh (bvo HBq.o hcur);have hBh:=HBh.o.size;have HZh:=Lh (HZW.o _ HBh.o);have hN:(insQ (lessF y) y fs j).length+1≤1099511627776:=by omega
  clear hcur;go_wp2_with (at_builtin;(first|refine apD slFile rfl _ _ rfl wi.heap.size _ _ (dad _ _ _) 1 _ _ _ HMh.o rfl rfl rfl rfl hN (by decide) hBh ?_|refine apD slFile rfl _ _ rfl wi.heap.size _ _ (drf _) 1 _ _ _ HMh.o rfl rfl rfl rfl hN (by decide) hBh ?_);intro v12 w12 ho12 hg12);go_roundw
  case rel=>exact⟨j+1,true,hlj,by go_num,rfl,HQ2,Lh (by rw [HP.o];exact GOwn.snoc (enc:=encL) ho12),Lh (bgr HBq.o hBh HM.o hg12)⟩
  simp [intOf];omega
 | false =>
  obtain⟨c,hc⟩:∃ c,lessF y z=c:=⟨_,rfl⟩;have HCc:=Lh hc;have hless:Op.bytesLess y.f.name.toList z.f.name.toList=c:=by have:=hc;unfold lessF ltB at this;exact this
  clear hc;cases c with
  | true =>
   have HP:=Lh (insQ_put (y:=y) HZ.o HQ.o.symm HCc.o);have HQ2:Hid (true=anyTo (lessF y) fs (j+1)):=Lh (by rw [anyTo_succ HZ.o,HCc.o,Bool.or_true]);refine wlo 12 fun hcur=>?_;(repeat refine lxq ?_);refine lxe ?_;have HMh:=Lh (HM.o.over hcur);have HBh:=Lh (bvo HBq.o hcur);have hBh:=HBh.o.size;have hN:(insQ (lessF y) y fs j).length+1≤1099511627776:=(by omega);have hN2:(insQ (lessF y) y fs j++[y]).length+1≤1099511627776:=(by rw [List.length_append,List.length_singleton];omega);clear hcur;go_upto_region 15 with((at_builtin;(first|refine apD slFile rfl _ _ rfl wi.heap.size _ _ (dad _ _ _) 1 _ _ _ HMh.o rfl rfl rfl rfl hN (by decide) hBh ?_|refine apD slFile rfl _ _ rfl wi.heap.size _ _ (drf _) 1 _ _ _ HMh.o rfl rfl rfl rfl hN (by decide) hBh ?_);intro v12 w12 ho12 hg12))
   have HM2:Hid (GOwn encL 3 66 w12 wi.heap.size v12 (insQ (lessF y) y fs j++[y])):=Lh (GOwn.snoc (enc:=encL) (x:=y) ho12);have HB12:=Lh (bgr HBq.o hBh HM.o hg12);have hB12:=HB12.o.size;have HZ12:=Lh (HZW.o _ HB12.o);clear z0 z1 z2 sz ho12 hg12 hless a0 a1 a2 sa;obtain⟨z0,z1,z2,sz⟩:=rc3 HZ12.o;go_wp2_with (at_builtin;(first|refine apD slFile rfl _ _ rfl wi.heap.size _ _ (dad _ _ _) 1 _ _ _ HM2.o rfl rfl rfl rfl hN2 (by decide) hB12 ?_|refine apD slFile rfl _ _ rfl wi.heap.size _ _ (drf _) 1 _ _ _ HM2.o rfl rfl rfl rfl hN2 (by decide) hB12 ?_);intro v13 w13 ho13 hg13);go_roundw
   case rel=>exact⟨j+1,true,hlj,by go_num,rfl,HQ2,Lh (by rw [HP.o];exact GOwn.snoc (enc:=encL) ho13),Lh (bgr HB12.o hB12 HM2.o hg13)⟩
   simp [intOf];omega
  | false =>
   have HP:=Lh (insQ_plain (y:=y) HZ.o (.inr HCc.o));have HQ2:Hid (false=anyTo (lessF y) fs (j+1)):=Lh (by rw [anyTo_succ HZ.o,← HQ.o,HCc.o];rfl);refine wlo 12 fun hcur=>?_;(repeat refine lxq ?_);refine lxe ?_;have HMh:=Lh (HM.o.over hcur);have HBh:=Lh (bvo HBq.o hcur);have hBh:=HBh.o.size;have hN:(insQ (lessF y) y fs j).length+1≤1099511627776:=(by omega);clear hcur;go_wp2_with (at_builtin;(first|refine apD slFile rfl _ _ rfl wi.heap.size _ _ (dad _ _ _) 1 _ _ _ HMh.o rfl rfl rfl rfl hN (by decide) hBh ?_|refine apD slFile rfl _ _ rfl wi.heap.size _ _ (drf _) 1 _ _ _ HMh.o rfl rfl rfl rfl hN (by decide) hBh ?_);intro v12 w12 ho12 hg12);go_roundw
   case rel=>exact⟨j+1,false,hlj,by go_num,rfl,HQ2,Lh (by rw [HP.o];exact GOwn.snoc (enc:=encL) ho12),Lh (bgr HBq.o hBh HM.o hg12)⟩
   simp [intOf];omega
end
abbrev flV(x:FlawM):Value:=.agg #[.int .u8 x.kind.toNat,.int .u8 x.file.pid.author.toNat,.int .u16 x.file.pid.seq.toNat,.int .u8 x.file.n.toNat]
theorem stoodFl:Tryz.prog.stoodInHeld 129=false:=by kernel_rfl
theorem guardFl:Tryz.prog.eqGuardType Tryz.prog.depth 129=false:=by kernel_rfl
theorem equal_fl(d:Nat)(x y:FlawM)(w:World):(Op.equalIn (d+6) 129 (flV x) (flV y)).run Tryz.prog w=.ok (decide (x=y)) w:=by
 have hf:=Tryz.underlying129;have hff:=fields_of hf;unfold flV;rw [run_equalIn_struct (d:=d+5) w 129 _ _ (by rw [hff];exact hf) stoodFl,hff];have i5:=Tryz.underlying5;have hp:∀(u v:VidM) w,(Op.equalIn (d+5) 27 (.agg (cV u)) (.agg (cV v))).run Tryz.prog w=.ok (decide (u=v)) w:=fun u v w=>equal_vid (d+1) u v w;have z1:=Tryz.sizeOf27;have z2:=Tryz.sizeOf5;have z3:=Tryz.isAgg27;have z4:=Tryz.isAgg5;simp [go_sem,i5,z1,z2,z3,z4,hp,u8_int];obtain⟨a,b⟩:=x;obtain⟨a',b'⟩:=y
 by_cases e1:a=a' <;> by_cases e2:b=b' <;> simp [e1,e2]
theorem neq_fl(x y:FlawM)(b:Bool)(h:(!decide (x=y))=b)(w:World):(binOp .neq 129 (flV x) (flV y)).run Tryz.prog w=.ok (.bool b) w:=by unfold flV;rw [run_neq_struct,show(10000:Nat)=9994+6 from rfl,equal_fl 9994 x y,← h];rfl
theorem guard_fl(op:BinOp)(p q:Operand)(xs ys:Array Value)(w:World):(eqGuard op 129 p q (.agg xs) (.agg ys)).run Tryz.prog w=.ok () w:=run_eqGuard_agg w op _ p q xs ys guardFl
def numB(b:Bool):Value:=.int .i64 (if b=true then 1 else 0)
theorem numB_t{b:Bool}(h:b=true):Value.int .i64 1=numB b:=by subst h;rfl
theorem numB_f{b:Bool}(h:b=false):Value.int .i64 0=numB b:=by subst h;rfl
theorem flawed_any(v u:Value)(l m:List FlawM)(w:World)(hv:GRow encFl 4 w v l)(hu:GRow encFl 4 w u m) :
  Calls Tryz.prog 24 #[v,u] w fun e w'=>e=.returned (numB (decide (l=m)))∧Be w w':=by
 obtain⟨a,cap,rfl,h1,h2,hc⟩:=hv.at encFl_len;obtain⟨a',cap',rfl,h1',h2',hc'⟩:=hu.at encFl_len;unfold maxLen at h2 h2';have HC:=Lh hc;have HC':=Lh hc';clear hv hu hc hc';have gd:=fun p q xs ys w=>guard_fl .neq p q xs ys w
 by_cases hlen:l.length=m.length
 rotate_left
 ·
  have HN:Hid (decide (l=m)=false):=decide_eq_false (fun h=>hlen (by rw [h]));have hq:((l.length:Int) != (m.length:Int))=true:=by simp;omega
  clear hlen;go_enter Tryz.func24,Tryz.ntmps24;go_wp2;go_ret;exact⟨rvl (numB_f HN.o),Below.refl _ _⟩
 have HL:=Lh hlen;have hq:((l.length:Int) != (m.length:Int))=false:=by simp [hlen]
 clear hlen;go_enter Tryz.func24,Tryz.ntmps24;go_wp2;go_loopw [5] (fun i wr=>∃ k:Nat,k≤l.length∧i=.int .i64 k∧Hid (l.take k=m.take k)∧Be w wr) (fun i _=>l.length - (intOf i).toNat)
 case atStart=>exact⟨0,by omega,rfl,rfl,Below.refl _ _⟩
 obtain⟨k,hk,rfl,HK,hbl⟩:=hrel
 by_cases hlt:k<l.length
 rotate_left
 ·
  obtain rfl:k=l.length:=by omega
  have HN:Hid (decide (l=m)=true):=decide_eq_true (take_all HL.o HK.o);go_wp2;go_ret;exact⟨rvl (numB_t HN.o),hbl⟩
 obtain⟨bl,ol,rfl,sl,hcl⟩:=HC.o.resolve_left (by omega);obtain⟨bm,om,rfl,sm,hcm⟩:=HC'.out.resolve_left (by have:=HL.o;omega);obtain⟨x,hx⟩:=gol hlt;obtain⟨y,hy⟩:=gol (xs:=m) (i:=k) (by have:=HL.o;omega);have hkm:k<m.length:=by have:=HL.o;omega
 have x0:wr.cell? ⟨bl,ol+k*4,none⟩=some (.int .u8 x.kind.toNat):=(hcl k x hx wr hbl).2 0 _ rfl;have x1:wr.cell? ⟨bl,ol+k*4+1,none⟩=some (.int .u8 x.file.pid.author.toNat):=(hcl k x hx wr hbl).2 1 _ rfl;have x2:wr.cell? ⟨bl,ol+k*4+2,none⟩=some (.int .u16 x.file.pid.seq.toNat):=(hcl k x hx wr hbl).2 2 _ rfl;have x3:wr.cell? ⟨bl,ol+k*4+3,none⟩=some (.int .u8 x.file.n.toNat):=(hcl k x hx wr hbl).2 3 _ rfl;have y0:wr.cell? ⟨bm,om+k*4,none⟩=some (.int .u8 y.kind.toNat):=(hcm k y hy wr hbl).2 0 _ rfl;have y1:wr.cell? ⟨bm,om+k*4+1,none⟩=some (.int .u8 y.file.pid.author.toNat):=(hcm k y hy wr hbl).2 1 _ rfl;have y2:wr.cell? ⟨bm,om+k*4+2,none⟩=some (.int .u16 y.file.pid.seq.toNat):=(hcm k y hy wr hbl).2 2 _ rfl;have y3:wr.cell? ⟨bm,om+k*4+3,none⟩=some (.int .u8 y.file.n.toNat):=(hcm k y hy wr hbl).2 3 _ rfl;have sX:=(hcl k x hx wr hbl).1;have sY:=(hcm k y hy wr hbl).1;have HX:=Lh hx;have HY:=Lh hy;clear hcl hcm hx hy
 by_cases hxy:x=y
 ·
  have hne:=neq_fl x y false (by simp [hxy]);unfold flV at hne;have HK2:Hid (l.take (k+1)=m.take (k+1)):=by show _=_;rw [tsg HX.o,tsg HY.o,HK.o,hxy]
  clear hxy;go_wp2_with fail;refine wlo 9 fun hcur=>?_;repeat refine lxq ?_
  refine lxe ?_;go_wp2;go_roundw
  case rel=>exact⟨k+1,hlt,by go_num,HK2,hbl.drew⟩
  simp [intOf];omega
 have hne:=neq_fl x y true (by simp [hxy]);unfold flV at hne;have HN:Hid (decide (l=m)=false):=decide_eq_false (take_ne HX.o HY.o hxy);clear hxy;go_wp2_with fail;refine wlo 9 fun hcur=>?_;repeat refine lxq ?_
 refine lxe ?_;go_wp2;go_ret;exact⟨rvl (numB_f HN.o),hbl.drew⟩
end Go.Proofs.YtanfebljiblhbaaGreatDoor
