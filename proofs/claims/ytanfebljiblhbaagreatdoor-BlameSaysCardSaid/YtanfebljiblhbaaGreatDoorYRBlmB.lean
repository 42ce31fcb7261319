/- Part of the proof that of any graph each file's lines, whose they are, and how many lines any author has, are as the document says. No conditions. -/
import Derived.Test.YtanfebljiblhbaaGreatDoorYRBlmA
import Derived.Test.YtanfebljiblhbaaGreatDoorYBlmF
import Derived.Test.YtanfebljiblhbaaGreatDoorYRnT
set_option linter.unusedVariables false
set_option linter.unusedSimpArgs false
set_option maxRecDepth 100000
set_option maxHeartbeats 40000000
namespace Go.Proofs.YtanfebljiblhbaaGreatDoor
open Go Go.RowKit
attribute [local irreducible] lnSeen lnOdd aliveX seenAll oddL blkM bareL toldAll toldL lnBlk allM linesM relM idsM edgesM
theorem rall49_any(gv:Value)(xs:List LaidP)(file:VidM)(w:World)(hv:Pats w gv xs)(hn:xs.length≤300)(hl:∀ x∈xs,x.p.ops.length≤260)(hw:WfG (patsOf xs))(hil:(idsM (patsOf xs)).length≤65536)(hel:(edgesM (patsOf xs)).length≤100000) :
  Calls Tryz.prog 15 #[rgV gv,vidV file] w (OwnRes tlL 4 43 w (toldL (linesM (patsOf xs) file) (relM (patsOf xs) file))):=by
 have HOf:Hid (∀ W,Below w.heap.size w W→Calls Tryz.prog 44 #[rgV gv,vidV file] W (R21Res W (linesM (patsOf xs) file) (relM (patsOf xs) file))):=Lh fun W h=>r21of_any gv xs file W (hv.over h) hn hl hw hil hel;have hll:=lines_few (file:=file) hil;clear hv hn hl hw hil hel;generalize linesM (patsOf xs) file=l at *;generalize relM (patsOf xs) file=R at *;have e1:=bnew (w:=w) (.cells #[gv] 33);have a1:=anw w #[gv] 33;have s1:(w.alloc (.cells #[gv] 33)).heap.size=w.heap.size+1:=by simp
 unfold rgV vidV at HOf ⊢;go_enter Tryz.func15,Tryz.ntmps15;go_upto_region 1 with fail;generalize w.alloc (.cells #[gv] 33)=w1 at *;have e2:=bnew (w:=w1) (.cells (cV file) 27);have a2:=anw w1 (cV file) 27;generalize w1.alloc (.cells (cV file) 27)=w2 at *;rw [s1] at a2;have HG:=Lh (a1.over e2);have HF:=Lh a2;have HB2:=Lh (bvo e1 e2);clear a1 a2 e1 e2;obtain⟨g0,sg⟩:=HG.o.c1;obtain⟨f0,f1,f2,sf⟩:=HF.o.c3;go_wp2_with fail
 with_reducible refine(HOf.o _ HB2.o).mono ?_
 rintro e w3 ⟨lv,sv,rfl,hs,hb⟩;obtain⟨lp,lc,sp,sc,rfl,rfl,hlc⟩:=hs.form;unfold rsV;have HS:=Lh hs;have HB3:=Lh (bvo HB2.o hb);clear hs hb g0 sg f0 f1 f2 sf HG HF HOf;go_upto_region 2 with fail;have HA:=Lh (anw w3 #[.slice lp l.length lc,.int .i64 l.length,.slice sp R.length sc] 105);have HS4:=Lh (HS.o.over (bnew (w:=w3) (.cells #[.slice lp l.length lc,.int .i64 l.length,.slice sp R.length sc] 105)));have HB4:=Lh (HB3.o.alloc HB3.o.size (.cells #[.slice lp l.length lc,.int .i64 l.length,.slice sp R.length sc] 105));generalize w3.alloc (.cells #[.slice lp l.length lc,.int .i64 l.length,.slice sp R.length sc] 105)=w4 at *;have HAl:Hid (∀ W,Below w4.heap.size w4 W→Calls Tryz.prog 47 #[.agg #[.slice lp l.length lc,.int .i64 l.length,.slice sp R.length sc]] W (OwnRes encI 1 3 W (aliveX l R))):=Lh fun W hW=>by have h:=r21alive_any _ _ l R W (HS4.o.over hW);unfold rsV at h;exact h
 have HO2:Hid (∀ v W,Below w4.heap.size w4 W→GRow encI 1 W v (aliveX l R)→Calls Tryz.prog 46 #[.agg #[.int .i64 l.length,.slice sp R.length sc],v] W (ROfRes W (lnBlk l R))):=Lh fun v W hW hv=>by have h:=rof22_any l.length R ((aliveX l R).length+1) (aliveX l R) v _ W (Nat.lt_succ_self _) (by have:=aliveX_len l R;omega) (HS4.o.over hW).rel hv;unfold lnBlk;exact h
 have HBl:Hid (∀ v ys lo W,Below w4.heap.size w4 W→BXR W lo v ys→bareL ys=lnBlk l R→Calls Tryz.prog 45 #[.agg #[.slice lp l.length lc,.int .i64 l.length,.slice sp R.length sc],v] W (OwnRes tlL 4 43 W (toldL l R))):=Lh fun v ys lo W hW hx he=>by
  have h1:toldAll l (bareL ys)=toldL l R:=by rw [he];unfold toldL;rfl
  have h:=rbl_any _ _ l R (SizeOf.sizeOf ys+1) v ys W (Nat.lt_succ_self _) hx.own.row (bins_true hx.ins) (HS4.o.over hW) (fun b hb=>by rw [he] at hb;unfold lnBlk at hb;exact blk_ok _ _ _ (fun i hi=>aliveX_lt hi) b hb) (by rw [h1];have:=toldL_few l R;omega);rw [h1] at h;unfold rsV at h;exact h
 obtain⟨g0,g1,g2,sg⟩:=HA.o.c3;refine wlo 7 fun hcur=>?_;repeat(first|refine lxq ?_|(refine lxl rfl ?_;go_wp2_with (first|(go_at_call 47;(with_reducible refine(HAl.o _ hcur).mono ?_);rintro e w5 ⟨v5,rfl,ho,hb⟩;have HR5:=Lh ho.row;replace hcur:=bvo hcur hb;clear hb;clear ho)|(go_at_call 46;(with_reducible refine(HO2.o _ _ hcur HR5.o).mono ?_);rintro e w6 ⟨v6,ys,rfl,hx,hr,hb⟩;have HX6:=Lh hx;have HR6:=Lh hr;replace hcur:=bvo hcur hb;clear hb;clear hx hr)|(go_at_call 45;(with_reducible refine(HBl.o _ _ _ _ hcur HX6.o HR6.o).mono ?_);rintro e w7 ⟨v7,rfl,ho,hb⟩;have HO7:=Lh (ho.base (bvo HB4.o hcur).size);replace hcur:=bvo hcur hb;clear hb;clear ho));refine⟨iov hcur,?_⟩))
 refine lxe ?_;go_wp2;go_ret;exact⟨_,rfl,HO7.o,bvo HB4.o hcur⟩
def RbyRel(L:List PatchM)(au:UInt8)(w2:World)(v5 v7:Value)(wr:World):Prop:=∃ k:Nat,k≤(allM L).length∧v7=.int .i64 k∧v5=.int .i64 (byTo L au k:Int)∧Hid (Below w2.heap.size w2 wr)
def RbiRel(T:List TLine)(au:UInt8)(m:Nat)(w3:World)(v5 v9:Value)(wr:World):Prop:=∃ j n5:Nat,j≤T.length∧v9=.int .i64 j∧v5=.int .i64 n5∧Hid (n5=m+cntA au (T.take j))∧Hid (Below w3.heap.size w3 wr)
attribute [local irreducible] byTo cntA byM
theorem rby49_any(gv:Value)(xs:List LaidP)(au:UInt8)(w:World)(hv:Pats w gv xs)(hn:xs.length≤300)(hl:∀ x∈xs,x.p.ops.length≤260)(hw:WfG (patsOf xs))(hil:(idsM (patsOf xs)).length≤65536)(hel:(edgesM (patsOf xs)).length≤100000) :
  Calls Tryz.prog 17 #[rgV gv,.int .u8 au.toNat] w fun e w'=>e=.returned (.int .i64 (byM (patsOf xs) au:Int))∧Below w.heap.size w w':=by
 have HAl:Hid (∀(f:VidM) (W:World),Below w.heap.size w W→Calls Tryz.prog 15 #[rgV gv,vidV f] W (OwnRes tlL 4 43 W (ofN (patsOf xs) ⟨f,⟨#[]⟩,[],[]⟩))):=Lh fun f W h=>by have h9:=rall49_any gv xs f W (hv.over h) hn hl hw hil hel;unfold ofN;exact h9
 have HNm:=Lh (rall24_any gv xs · · hn hw (by omega));have HV:=Lh hv;have hfw:=fun n=>ofN_few (L:=patsOf xs) hil n;have hbt:=fun k=>byTo_le (L:=patsOf xs) hil au k;have hal:=all_few hil;obtain⟨L,hL⟩:∃ L,patsOf xs=L:=⟨_,rfl⟩;rw [hL] at HAl HNm hfw hbt hal ⊢;have HFw:=Lh hfw;have HBt:=Lh hbt;clear hv hn hl hw hil hel hL hfw hbt;have HG:=Lh (anw w #[gv] 33);have HB:=Lh (bnew (w:=w) (.cells #[gv] 33));unfold rgV vidV at HAl;unfold rgV at HNm ⊢;go_enter Tryz.func17,Tryz.ntmps17;go_upto_region 1 with fail;generalize w.alloc (.cells #[gv] 33)=w0 at *;obtain⟨g0,sg⟩:=HG.o.c1;go_wp2_with fail;refine(HNm.o w0 (HV.o.over HB.o)).mono ?_;rintro e w2 ⟨v4,rfl,ho,hb⟩;obtain⟨ns,a,cap,hns,rfl,t1,t2,hna,hc⟩:=rname_at ho;unfold maxLen at t2;have HNS:=Lh hns;have HC:=Lh hc;have HB2:=Lh (bvo HB.o hb);have HG2:=Lh (HG.o.over hb);clear ho hb hna hc hns g0 sg HB HV HG HNm;go_wp2;go_loopw [5,7] (fun v5 v7 wr=>RbyRel L au w2 v5 v7 wr) (fun _ v7 _=>(allM L).length - (intOf v7).toNat)
 case atStart=>exact⟨0,Nat.zero_le _,rfl,by unfold byTo;rfl,Below.refl _ _⟩
 obtain⟨k,hk,rfl,rfl,HBr⟩:=hrel;rename World=>wr;have hbk:=HBt.o k
 by_cases hlt:k<(allM L).length
 rotate_left
 ·
  obtain rfl:k=(allM L).length:=by omega
  have HE:Hid (byM L au=byTo L au (allM L).length):=Lh (by unfold byM;rfl);go_wp2;go_ret;exact⟨by rw [HE.o];rfl,bvo HB2.o HBr.o⟩
 obtain⟨b3,off3,rfl,sb3,hcb⟩:=HC.o.resolve_left (by omega);obtain⟨x,hx⟩:=gol (show k<ns.length by rw [← List.length_map (·.n),HNS.o];exact hlt);have HXk:Hid ((allM L)[k]? = some x.n):=Lh (by rw [← HNS.o,List.getElem?_map,hx];rfl);have hr:=hcb k x hx wr HBr.o;have u0:wr.cell? ⟨b3,off3+k*6,none⟩=some (.int .u8 x.n.file.pid.author.toNat):=hr.2 0 _ rfl;have u1:wr.cell? ⟨b3,off3+k*6+1,none⟩=some (.int .u16 x.n.file.pid.seq.toNat):=hr.2 1 _ rfl;have u2:wr.cell? ⟨b3,off3+k*6+2,none⟩=some (.int .u8 x.n.file.n.toNat):=hr.2 2 _ rfl;have su:=hr.1;have HGr:=Lh (HG2.o.over HBr.o);obtain⟨g0,sg⟩:=HGr.o.c1;have HA1:=Lh (fun W (h:Below wr.heap.size wr W)=>HAl.o x.n.file W (bvo HB2.o (bvo HBr.o h)));have HSu:=Lh (byTo_succ (a:=au) HXk.o);have hfw:=HFw.o x.n;obtain⟨T,hT⟩:∃ T,ofN L x.n=T:=⟨_,rfl⟩;have hT2:ofN L ⟨x.n.file,⟨#[]⟩,[],[]⟩=T:=by rw [← hT];unfold ofN;rfl
 rw [hT2] at HA1;rw [hT] at HSu hfw;clear hcb hx hr hT hT2;go_upto_region 6 with fail;refine wlo 7 fun hcur=>?_;repeat(first|refine lxq ?_|(refine lxl rfl ?_;go_wp2_with (first|(go_at_call 15;(with_reducible refine(HA1.o _ hcur).mono ?_);rintro e w3 ⟨v3,rfl,ho,hb⟩;(obtain⟨p3,c3,e3,j1,j2,hc3⟩:=ho.row.at encTl_len);subst e3;have HC3:=Lh hc3;replace hcur:=bvo hcur hb;clear hb;clear ho hc3));refine⟨iov hcur,?_⟩))
 refine lxe ?_;have HB3:=Lh (bvo HBr.o hcur);unfold maxLen at j2;clear hcur u0 u1 u2 su g0 sg;obtain⟨m,hm⟩:∃ m,byTo L au k=m:=⟨_,rfl⟩;have HM:=Lh hm;rw [hm] at hbk HSu ⊢;clear hm;go_wp2;go_loopw [5,9] (fun v5 v9 wq=>RbiRel T au m w3 v5 v9 wq) (fun _ v9 _=>T.length - (intOf v9).toNat)
 case atStart=>exact⟨0,m,Nat.zero_le _,rfl,rfl,Lh (by rw [List.take_zero];unfold cntA;simp),Below.refl _ _⟩
 obtain⟨j,n5,hj,rfl,rfl,HN5,HBq⟩:=hrel;rename World=>wq;have hn5:n5≤m+T.length:=by have h1:=HN5.o;have h2:=cntA_le au (T.take j);rw [List.length_take] at h2;omega
 by_cases hlj:j<T.length
 rotate_left
 ·
  obtain rfl:j=T.length:=by omega
  have HE:Hid (byTo L au (k+1)=n5):=Lh (by rw [HSu.o,HN5.o,List.take_length]);go_wp2;go_roundw
  case rel=>exact⟨k+1,hlt,by go_num,by rw [HE.o],bvo HB3.o HBq.o⟩
  simp [intOf];omega
 obtain⟨lb,lo,rfl,sl,hcl⟩:=HC3.o.resolve_left (by omega);obtain⟨y,hy⟩:=gol hlj;have hr:=hcl j y hy wq HBq.o;have l1:wq.cell? ⟨lb,lo+j*4+1,none⟩=some (.int .u8 y.id.pid.author.toNat):=hr.2 1 _ rfl;have l2:wq.cell? ⟨lb,lo+j*4+1+1,none⟩=some (.int .u16 y.id.pid.seq.toNat):=hr.2 2 _ rfl;have l3:wq.cell? ⟨lb,lo+j*4+1+2,none⟩=some (.int .u8 y.id.n.toNat):=hr.2 3 _ rfl;have sl2:=hr.1;obtain⟨nb,hnb⟩:∃ q,(!decide (y.id=noVid))=q:=⟨_,rfl⟩;obtain⟨ab,hab⟩:∃ q,decide (y.id.pid.author=au)=q:=⟨_,rfl⟩;have en:∀ w,(binOp .neq 27 (.agg (cV y.id)) (.agg #[.int .u8 0,.int .u16 0,.int .u8 0])).run Tryz.prog w=.ok (.bool nb) w:=neq_vid y.id noVid nb hnb;have gd:=fun p q xs ys w=>guard_vid .neq p q xs ys w;have e2:((y.id.pid.author.toNat:Int) == (au.toNat:Int))=ab:=by rw [← hab,Bool.eq_iff_iff,beq_iff_eq,decide_eq_true_iff];exact⟨fun h=>UInt8.toNat_inj.1 (by omega),fun h=>by rw [h]⟩
 have HS5:Hid (n5+(if(nb && ab)=true then 1 else 0)=m+cntA au (T.take (j+1))):=Lh (by rw [take_one hy,cntA_snoc,HN5.o,Nat.add_assoc,← hnb,← hab];simp);clear hcl hy hr hnb hab;cases nb with
 | false =>
  go_wp2;go_roundw
  case rel=>exact⟨j+1,n5,hlj,by go_num,rfl,Lh (by have:=HS5.o;simpa using this),HBq⟩
  simp [intOf];omega
 | true =>
  cases ab with
  | false =>
   go_wp2;go_roundw
   case rel=>exact⟨j+1,n5,hlj,by go_num,rfl,Lh (by have:=HS5.o;simpa using this),HBq⟩
   simp [intOf];omega
  | true =>
   go_wp2;go_roundw
   case rel=>exact⟨j+1,n5+1,hlj,by go_num,by go_num,Lh (by have:=HS5.o;simpa using this),HBq⟩
   simp [intOf];omega
end Go.Proofs.YtanfebljiblhbaaGreatDoor
