/- Part of the proof that any graph's tree, and what is at odds in it, are as the document says. No conditions. -/
import Derived.Test.YtanfebljiblhbaaGreatDoorUR21A
import Derived.Test.YtanfebljiblhbaaGreatDoorURefM
import Derived.Test.YtanfebljiblhbaaGreatDoorURcP
set_option linter.unusedVariables false
set_option linter.unusedSimpArgs false
set_option maxRecDepth 100000
set_option maxHeartbeats 40000000
namespace Go.Proofs.YtanfebljiblhbaaGreatDoor
open Go Go.RowKit
section
theorem Row.other{w w':World}{v:Value}{n sz g:Nat}{cs ds:List Value}(h:Row w v n sz cs)(hA:Arr w g ds)(hd:ds.length<sz)(hg:w.grownBy w' (some g)):Row w' v n sz cs:=by
 obtain⟨h1,a,cap,rfl,h2,h3,h4,h5⟩:=h;refine⟨h1,a,cap,rfl,h2,h3,h4,fun hn => ?_⟩;obtain⟨b,off,ha,hb,hc⟩:=h5 hn;have hne:b≠g:=by
  rintro rfl;have hlt:sz - 1<cs.length:=by rw [h1];have:1*sz≤n*sz:=Nat.mul_le_mul_right _ (by omega);omega
  have hcell:=hc (sz - 1) _ (List.getElem?_eq_getElem hlt);obtain⟨e,he⟩:=hA;rw [cell_of_row w b (off+(sz - 1)) _ e (0,0) he] at hcell;have hno:ds[off+(sz - 1)]? = none:=List.getElem?_eq_none (by omega);simp [hno] at hcell
 refine⟨b,off,ha,Nat.lt_of_lt_of_le hb hg.size,fun j u hu => ?_⟩;rw [World.cell?_of_block (hg.block b hb (fun q=>hne (Option.some.inj q)))];exact hc j u hu
theorem rowSh:RowT Tryz.prog 105 3:=rowT_of Tryz.underlying105 rfl (by kernel_rfl)
def R21Res(w:World)(l:List VertM)(R:List (Nat × Nat))(e:Ending)(w':World):Prop:=∃ lv sv,e=.returned (rsV lv l.length sv)∧RSh w' lv sv l R∧Be w w'
theorem r21_mk{w w':World}{l:List VertM}{R:List (Nat × Nat)}{lp sp:Option Addr}{lc sc:Nat}(h:RSh w' (.slice lp l.length lc) (.slice sp R.length sc) l R)(hb:Be w w'):R21Res w l R (.returned (rsV (.slice lp l.length lc) l.length (.slice sp R.length sc))) w':=⟨_,_,rfl,h,hb⟩
attribute [local irreducible] placeM linesM relM stepsM edgesM
theorem r21of_any(gv:Value)(xs:List LaidP)(file:VidM)(w:World)(hv:Pats w gv xs)(hn:xs.length≤300)(hl:∀ x∈xs,x.p.ops.length≤260)(hw:WfG (patsOf xs))(hil:(idsM (patsOf xs)).length≤65536)(hel:(edgesM (patsOf xs)).length≤100000) :
  Calls Tryz.prog 44 #[rgV gv,vidV file] w (R21Res w (linesM (patsOf xs) file) (relM (patsOf xs) file)):=by
 have hvl:(vertsM (patsOf xs)).length≤100000:=by unfold vertsM;rw [List.length_map];omega
 have HLs:=Lh hl;obtain⟨ga,gc,rfl,_,_,_⟩:=hv.1.at encPat_len;have HB0a:=(bnew (w:=w) (.cells #[.slice ga xs.length gc] 33)).alloc (by simp) (.cells (cV file) 27);have HB0:=Lh (HB0a.alloc (by simp;omega) (.cells #[.slice none 0 0,.int .i64 0,.slice none 0 0] 105));have HG:=Lh (((anw w #[.slice ga xs.length gc] 33).alloc (.cells (cV file) 27)).alloc (.cells #[.slice none 0 0,.int .i64 0,.slice none 0 0] 105));have HF:=Lh ((an2 w (.cells #[.slice ga xs.length gc] 33) (cV file) 27).alloc (.cells #[.slice none 0 0,.int .i64 0,.slice none 0 0] 105));have HZ:=Lh (arr_new3 w (.cells #[.slice ga xs.length gc] 33) (.cells (cV file) 27) #[.slice none 0 0,.int .i64 0,.slice none 0 0] 105);have HZt:=Lh (show ArrT (((w.alloc (.cells #[.slice ga xs.length gc] 33)).alloc (.cells (cV file) 27)).alloc (.cells #[.slice none 0 0,.int .i64 0,.slice none 0 0] 105)) (w.heap.size+1+1) 105 [.slice none 0 0,.int .i64 0,.slice none 0 0] from(show((w.alloc (.cells #[.slice ga xs.length gc] 33)).alloc (.cells (cV file) 27)).heap.size=w.heap.size+1+1 by simp)▸arrT_new ((w.alloc (.cells #[.slice ga xs.length gc] 33)).alloc (.cells (cV file) 27)) [.slice none 0 0,.int .i64 0,.slice none 0 0] 105);have HV:=Lh (hv.over HB0.o);have hll:=lines_few (file:=file) hil;have hrf:(relM (patsOf xs) file).length≤1000000:=by rw [relM_length];exact steps_few (by omega)
 have HRLn:=Lh (relM_length (patsOf xs) file);have HAt:=Lh (fun k e=>@relM_at (patsOf xs) file k e);have HEn:=Lh (fun e=>@step_ends (patsOf xs) hw (wf_len hw) file e);have HLt:=Lh (relM_lt hw (wf_len hw) file);have HLM:=Lh (linesM_eq (patsOf xs) file);clear hv hl hw HB0a;unfold rgV vidV;go_enter Tryz.func44,Tryz.ntmps44;go_upto_region 1 with fail;generalize ((w.alloc (.cells #[.slice ga xs.length gc] 33)).alloc (.cells (cV file) 27)).alloc (.cells #[.slice none 0 0,.int .i64 0,.slice none 0 0] 105)=w0 at *;obtain⟨g0,sg⟩:=HG.o.c1;obtain⟨f0,f1,f2,sf⟩:=HF.o.c3;go_wp2_with fail;refine(rof20_any _ xs file 3 _ HV.o hn HLs.o (by omega) hvl).mono ?_;rintro e w1 ⟨lv,rfl,ho1,hb1⟩;rw [HLM.o] at ho1;obtain⟨lp,lc,rfl,z1,z2,_⟩:=ho1.at encVert_len;unfold maxLen at z2;have HO1:=Lh ho1;have HB1:=Lh hb1;have HG1:=Lh (HG.o.over hb1);have HF1:=Lh (HF.o.over hb1);have HZ1:=Lh (HZ.o.over hb1);clear ho1 hb1 g0 sg f0 f1 f2 sf;obtain⟨g0,sg⟩:=HG1.o.c1;obtain⟨f0,f1,f2,sf⟩:=HF1.o.c3;go_wp2_with fail;refine(rsteps20_any _ xs file _ (HV.o.over HB1.o) hn HLs.o hel).mono ?_;rintro e w2 ⟨ev,rfl,ho2,hb2⟩;obtain⟨ep,ec,rfl,y1,y2,hce⟩:=ho2.at encEdge_len;unfold maxLen at y2;have HCE:=Lh hce;have HO2:=Lh (HO1.o.over hb2);have HB2:=Lh (bvo HB1.o hb2);have HZ2:=Lh (HZ1.o.over hb2);clear ho2 hb2 hce g0 sg f0 f1 f2 sf;rw [← HRLn.o] at y1 ⊢;generalize linesM (patsOf xs) file=l at *;go_wp2;go_loopw [7,8] (fun v7 v8 wr=>LoRel w2 (relM (patsOf xs) file) v7 v8 wr) (fun _ v8 _=>(relM (patsOf xs) file).length - (intOf v8).toNat)
 case atStart=>exact⟨0,by omega,rfl,Lh (by rw [List.take_zero];exact gown_nil _ _),Below.refl _ _⟩
 obtain⟨k,hk,rfl,HM,hbl⟩:=hrel;rename World=>wr
 by_cases hlt:k<(relM (patsOf xs) file).length
 ·
  obtain⟨b3,off3,rfl,sb3,hcb⟩:=HCE.o.resolve_left (by rw [← HRLn.o];omega);obtain⟨x,hx⟩:=gol (xs:=stepsM (patsOf xs) file) (i:=k) (by rw [← HRLn.o];exact hlt);have HX:=Lh (HAt.o k x hx);obtain⟨hm1,hm2⟩:=HEn.o x (List.mem_of_getElem? hx);have HM1:=Lh hm1;have HM2:=Lh hm2;have HRx:=Lh (hcb k x hx wr hbl.o);have HOr:=Lh (HO2.o.over hbl.o);obtain⟨x0,x1,x2,x3,x4,x5,sx⟩:=rc6 HRx.o;have hN7:((relM (patsOf xs) file).take k).length+1≤1099511627776:=by rw [List.length_take];omega
  clear hcb hx hm1 hm2;go_wp2_with fail;refine wlo 17 fun hcur=>?_;repeat(first|refine lxq ?_|(refine lxl rfl ?_;go_wp2_with (first|(go_at_call 92;(first|(with_reducible refine(r21place_any _ l x.1 _ (HOr.o.over hcur) HM1.o).mono ?_)|(with_reducible refine(r21place_any _ l x.2 _ (HOr.o.over hcur) HM2.o).mono ?_));rintro e w' ⟨rfl,hb⟩;have hcur:=bvo hcur hb));refine⟨iov (by first|exact hcur|exact hcur.alloc hcur.size _),?_⟩))
  refine lxe ?_;have HM8:=Lh (HM.o.over hcur);have HB8:=Lh (bvo hbl.o hcur);have hB8:=HB8.o.size;clear hcur x0 x1 x2 x3 x4 x5 sx;go_wp2_with (at_builtin;refine apD slPair rfl _ _ rfl w2.heap.size _ _ (drf _) 1 _ _ _ HM8.o rfl rfl rfl rfl hN7 (by decide) hB8 ?_;intro v9 w9 ho9 hg9);go_roundw
  case rel=>exact⟨k+1,hlt,by go_num,Lh (take_snoc HX.o (GOwn.snoc ho9)),bgr HB8.o hB8 HM8.o hg9⟩
  simp [intOf];omega
 obtain rfl:k=(relM (patsOf xs) file).length:=by omega
 have hE:=HM.o;rw [List.take_length] at hE;have HE:=Lh hE;obtain⟨rp,rc,rfl,t1,t2,_⟩:=prow_at hE.row;unfold maxLen at t2;clear hE HM;go_wp2_with fail;refine(r8of_any l.length _ (relM (patsOf xs) file) _ HE.o.row HLt.o hll hrf).mono ?_;rintro e w4 ⟨u,rfl,ho4,hb4⟩;obtain⟨up,uc,rfl,_,_,_⟩:=prow_at ho4.row;have HUo:=Lh ho4;have HZT:=Lh ((HZt.o.over (bvo HB2.o hbl.o)).over hb4);have HBf:=Lh (bvo HB0.o (bvo HB2.o (bvo hbl.o hb4)));have HO4:=Lh ((HO2.o.over hbl.o).over hb4);have HZ4:=Lh ((HZ2.o.over hbl.o).over hb4);clear ho4 hb4;obtain⟨q0,q1,q2,_⟩:=HZ4.o.c3;have qf0:=HZ4.o.free 0;have qf1:=HZ4.o.free 1;have qf2:=HZ4.o.free 2;have sq:=HZ4.o.lt;have hrow:=Row.other (show Row _ _ _ _ _ from HO4.o) HZ4.o (by simp) (gtr (gtr (gsc (g:=w.heap.size+1+1) w4 0 (.slice lp l.length lc)) (gsc _ 1 (.int .i64 l.length))) (gsc _ 2 (.slice up (relM (patsOf xs) file).length uc)));have HRw:=Lh hrow;have hho:GOwn encP 2 158 (((w4.setCell ⟨w.heap.size+1+1,0,none⟩ (.slice lp l.length lc)).setCell ⟨w.heap.size+1+1,1,none⟩ (.int .i64 l.length)).setCell ⟨w.heap.size+1+1,2,none⟩ (.slice up (relM (patsOf xs) file).length uc)) _ (.slice up (relM (patsOf xs) file).length uc) (relM (patsOf xs) file):=
  own_kept (own_kept (own_kept HUo.o (gsc _ _ _) (HZT.o.ne HUo.o (by decide))) (gsc _ _ _) (HZT.o.ne HUo.o (by decide))) (gsc _ _ _) (HZT.o.ne HUo.o (by decide))
 have HUf:=Lh hho.row;have HBg:=Lh (((HBf.o.setCell (p:=⟨w.heap.size+1+1,0,none⟩) (by show w.heap.size≤w.heap.size+1+1;omega) (.slice lp l.length lc)).setCell (p:=⟨w.heap.size+1+1,1,none⟩) (by show w.heap.size≤w.heap.size+1+1;omega) (.int .i64 l.length)).setCell (p:=⟨w.heap.size+1+1,2,none⟩) (by show w.heap.size≤w.heap.size+1+1;omega) (.slice up (relM (patsOf xs) file).length uc));clear hrow hho;go_wp2_with fail;refine bodyPost_ret (v:=rsV (.slice lp l.length lc) l.length (.slice up (relM (patsOf xs) file).length uc)) (results_arr rowSh rfl (((HZ4.o.set 0 _).set 1 _).set 2 _) rfl rfl) rfl ?_;exact r21_mk ⟨HRw.o,HUf.o,by omega,HLt.o,hrf⟩ HBg.o
end
section
theorem near_lead2(R:List (Nat × Nat))(i j:Nat):nearB R i j=(leadB R i j || leadB R j i):=rfl
def RcRel(R:List (Nat × Nat))(l:List Nat)(n:Nat)(w:World)(v:Value)(wr:World):Prop:=∃ k:Nat,k≤n∧v=.int .i64 k∧Hid (∀ i x:Nat,i<k→l[i]? = some x→∀ y∈l.drop n,befB R x y=true)∧Be w wr
def Rc2Rel(R:List (Nat × Nat))(l:List Nat)(n x:Nat)(w:World)(v:Value)(wr:World):Prop:=∃ k:Nat,n≤k∧k≤l.length∧v=.int .i64 k∧Hid (∀ j y:Nat,n+j<k→l[n+j]? = some y→befB R x y=true)∧Be w wr
attribute [local irreducible] cutB befB leadB nearB
theorem rcut22_any(n:Nat)(rv:Value)(R:List (Nat × Nat))(v:Value)(l:List Nat)(k:Nat)(w:World)(h:RRel w n rv R)(hv:GRow encI 1 w v l)(hk:k<l.length) :
  Calls Tryz.prog 94 #[rrV n rv,v,.int .i64 k] w fun e w'=>e=.returned (.bool (cutB R l k))∧Be w w':=by
 obtain⟨ra,rc,rfl,r1,r2,_⟩:=prow_at h.row;unfold maxLen at r2;obtain⟨a,cap,rfl,h1,h2,hc⟩:=irow_at hv;unfold maxLen at h2;obtain⟨b,off,rfl,sb,hcb⟩:=hc.resolve_left (by omega);have HC:=Lh hcb;have HH:=Lh (h.over (bnew (w:=w) (.cells #[.int .i64 n,.slice ra R.length rc] 103)));have HG:=Lh (anw w #[.int .i64 n,.slice ra R.length rc] 103);have HB:=Lh (bnew (w:=w) (.cells #[.int .i64 n,.slice ra R.length rc] 103));clear hv hcb h hc;go_enter Tryz.func94,Tryz.ntmps94;go_upto_region 1 with fail;generalize w.alloc (.cells #[.int .i64 n,.slice ra R.length rc] 103)=w0 at *;go_wp2;go_loopw [7] (fun v7 wr=>RcRel R l k w0 v7 wr) (fun v7 _=>k - (intOf v7).toNat)
 case atStart=>exact⟨0,by omega,rfl,Lh (fun i x hi=>absurd hi (by omega)),Below.refl _ _⟩
 obtain⟨i,hi,rfl,HK,hbl⟩:=hrel;rename World=>wr;have HBl:=Lh hbl
 by_cases hlt:i<k
 rotate_left
 ·
  obtain rfl:i=k:=by omega
  have HN:=Lh (cut_yes (by omega) HK.o);go_wp2;go_ret;exact⟨rvb HN.o,bvo HB.o HBl.o⟩
 obtain⟨x,hx⟩:=gol (xs:=l) (i:=i) (by omega);have HX:=Lh hx;clear hx hbl;go_wp2;go_loopw [8] (fun v8 wq=>Rc2Rel R l k x wr v8 wq) (fun v8 _=>l.length - (intOf v8).toNat)
 case atStart=>exact⟨k,Nat.le_refl _,by omega,rfl,Lh (fun j y hj=>absurd hj (by omega)),Below.refl _ _⟩
 obtain⟨j,hj0,hj,rfl,HJ,hbq⟩:=hrel;rename World=>wq;have HBq:=Lh (bvo HBl.o hbq);have HBqr:=Lh hbq
 by_cases hlt2:j<l.length
 rotate_left
 ·
  obtain rfl:j=l.length:=by omega
  have HK2:=Lh (ct_next HK.o HX.o fun q y hq hy=>HJ.o q y (by omega) hy);go_wp2;go_roundw
  case rel=>exact⟨i+1,by omega,by go_num,HK2,HBq.o⟩
  simp [intOf];omega
 obtain⟨y,hy⟩:=gol hlt2;have hbw:=bvo HB.o HBq.o;have x0:=(HC.o i x HX.o wq hbw).2;obtain⟨sbq,y0⟩:=HC.o j y hy wq hbw;have HG1:=Lh (HG.o.over HBq.o);obtain⟨g0,g1,sg⟩:=HG1.o.c2;have HY:=Lh hy;have HBf:=Lh (r8bef_any n (.slice ra R.length rc) R x y wq.drew ((HH.o.over HBq.o).over (Below.refl _ _).drew));unfold rrV at HBf;clear hy hbw hbq;cases hf:befB R x y with
 | true =>
  rw [hf] at HBf;have HJ2:Hid (∀ q z:Nat,k+q<j+1→l[k+q]? = some z→befB R x z=true):=Lh fun q z hq hz=>by
   rcases Nat.lt_or_ge (k+q) j with h1|h1
   · exact HJ.o q z h1 hz
   obtain rfl:k+q=j:=(by omega);rw [HY.o] at hz;cases hz;exact hf
  clear hf;go_wp2_with fail;refine wlo 11 fun hcur=>?_;repeat(first|refine lxq ?_|(refine lxl rfl ?_;go_wp2_with (first|(go_at_call 156;(with_reducible refine(HBf.o).mono ?_);rintro e wf ⟨rfl,hb⟩;have hcur:=bvo hcur hb));refine⟨iov hcur,?_⟩))
  refine lxe ?_;go_wp2;go_roundw
  case rel=>exact⟨j+1,by omega,hlt2,by go_num,HJ2,bvo HBqr.o hcur⟩
  simp [intOf];omega
 | false =>
  rw [hf] at HBf;have HN:Hid (cutB R l k=false):=Lh (cut_no (i:=i) (j:=j - k) hlt HX.o (by rw [show k+(j - k)=j by omega];exact HY.o) hf);clear hf;go_wp2_with fail;refine wlo 11 fun hcur=>?_;repeat(first|refine lxq ?_|(refine lxl rfl ?_;go_wp2_with (first|(go_at_call 156;(with_reducible refine(HBf.o).mono ?_);rintro e wf ⟨rfl,hb⟩;have hcur:=bvo hcur hb));refine⟨iov hcur,?_⟩))
  refine lxe ?_;go_wp2;go_ret;exact⟨rvb HN.o,bvo HB.o (bvo HBq.o hcur)⟩
theorem rnear_any(n:Nat)(rv:Value)(R:List (Nat × Nat))(i j:Nat)(w:World)(h:RRel w n rv R) :
  Calls Tryz.prog 213 #[rrV n rv,.int .i64 i,.int .i64 j] w fun e w'=>e=.returned (.bool (nearB R i j))∧Be w w':=by
 obtain⟨ra,rc,rfl,r1,r2,_⟩:=prow_at h.row;unfold maxLen at r2;have HN:=Lh (near_lead2 R i j);have HH:=Lh (h.over (bnew (w:=w) (.cells #[.int .i64 n,.slice ra R.length rc] 103)));have HG:=Lh (anw w #[.int .i64 n,.slice ra R.length rc] 103);have HB:=Lh (bnew (w:=w) (.cells #[.int .i64 n,.slice ra R.length rc] 103));clear h;cases ha:leadB R i j with
 | true =>have HN2:Hid (nearB R i j=true):=Lh (by rw [HN.o,ha];rfl);have HA:=Lh ha;clear ha;go_enter Tryz.func213,Tryz.ntmps213;go_upto_region 1 with fail;generalize w.alloc (.cells #[.int .i64 n,.slice ra R.length rc] 103)=w0 at *;obtain⟨g0,g1,sg⟩:=HG.o.c2;go_wp2_with fail;refine(r8has_any n (.slice ra R.length rc) R i j _ HH.o).mono ?_;rw [HA.o];rintro e w1 ⟨rfl,hb1⟩;have HB1:=Lh (bvo HB.o hb1);clear hb1;go_wp2;go_ret;exact⟨rvb HN2.o,HB1.o⟩
 | false =>have HN2:Hid (nearB R i j=leadB R j i):=Lh (by rw [HN.o,ha];rfl);have HA:=Lh ha;clear ha;go_enter Tryz.func213,Tryz.ntmps213;go_upto_region 1 with fail;generalize w.alloc (.cells #[.int .i64 n,.slice ra R.length rc] 103)=w0 at *;obtain⟨g0,g1,sg⟩:=HG.o.c2;go_wp2_with fail;refine(r8has_any n (.slice ra R.length rc) R i j _ HH.o).mono ?_;rw [HA.o];rintro e w1 ⟨rfl,hb1⟩;have HB1:=Lh (bvo HB.o hb1);have HH1:=Lh (HH.o.over hb1);have HG1:=Lh (HG.o.over hb1);clear hb1 g0 g1 sg;obtain⟨g0,g1,sg⟩:=HG1.o.c2;go_wp2_with fail;refine(r8has_any n (.slice ra R.length rc) R j i _ HH1.o).mono ?_;rintro e w2 ⟨rfl,hb2⟩;have HB2:=Lh (bvo HB1.o hb2);clear hb2;go_wp2;go_ret;exact⟨rvb HN2.o,HB2.o⟩
end
section
variable{ms ms0:List Bool}{at' i k:Nat}
variable {R : List (Nat × Nat)} {l : List Nat}
def onB(ms:List Bool)(q:Nat):Bool:=ms.getD q false
theorem onB_set(hk:k<ms.length)(q:Nat):onB (ms.set k true) q=if q=k then true else onB ms q:=by
 unfold onB;rw [List.getD_eq_getElem?_getD,List.getD_eq_getElem?_getD,List.getElem?_set]
 by_cases h:k=q
 · subst h;rw [if_pos rfl,if_pos rfl,if_pos hk];rfl
 rw [if_neg h,if_neg (fun e=>h e.symm)]
structure Pss (R:List (Nat × Nat)) (l:List Nat) (at':Nat) (ms0:List Bool) (i k:Nat) (ms:List Bool):Prop where
 len:ms.length=l.length
 len0:ms0.length=l.length
 keep:∀ q,onB ms0 q=true→onB ms q=true
 near:∀ q,onB ms q=true→Near R l at' q
 done:∀ i' k',(i'<i∨(i'=i∧k'<k))→k'<l.length→onB ms0 i'=true→nearB R (l.getD i' 0) (l.getD k' 0)=true→onB ms k'=true
theorem pss_start(hl:ms.length=l.length)(hn:∀ q,onB ms q=true→Near R l at' q):Pss R l at' ms 0 0 ms:=
 ⟨hl,hl,fun _ h=>h,hn,fun i' k' h=>by omega⟩
theorem pss_yes(h:Pss R l at' ms0 i k ms)(hi:onB ms i=true)(hk:k<l.length)(hn:nearB R (l.getD i 0) (l.getD k 0)=true):Pss R l at' ms0 i (k+1) (ms.set k true):=by
 have hk2:k<ms.length:=by rw [h.len];exact hk
 refine⟨by rw [List.length_set];exact h.len,h.len0,fun q hq => ?_,fun q hq => ?_,fun i' k' h1 h2 h3 h4 => ?_⟩
 ·
  rw [onB_set hk2];split
  · rfl
  exact h.keep q hq
 ·
  rw [onB_set hk2] at hq;split at hq
  · rename_i e;subst e;exact .more (h.near i hi) hk hn
  exact h.near q hq
 rw [onB_set hk2];split
 · rfl
 rename_i hne;exact h.done i' k' (by omega) h2 h3 h4
theorem pss_no(h:Pss R l at' ms0 i k ms)(hi:onB ms i=false∨nearB R (l.getD i 0) (l.getD k 0)=false):Pss R l at' ms0 i (k+1) ms:=by
 refine⟨h.len,h.len0,h.keep,h.near,fun i' k' h1 h2 h3 h4 => ?_⟩
 by_cases he:i'=i∧k'=k
 ·
  obtain⟨rfl,rfl⟩:=he;rcases hi with hi|hi
  · rw [h.keep _ h3] at hi;cases hi
  rw [h4] at hi;cases hi
 exact h.done i' k' (by omega) h2 h3 h4
theorem pss_next(h:Pss R l at' ms0 i l.length ms):Pss R l at' ms0 (i+1) 0 ms:=
 ⟨h.len,h.len0,h.keep,h.near,fun i' k' h1 h2 h3 h4=>h.done i' k' (by omega) h2 h3 h4⟩
def Shut(R:List (Nat × Nat))(l:List Nat)(ms:List Bool):Prop:=∀ i k,i<l.length→k<l.length→onB ms i=true→nearB R (l.getD i 0) (l.getD k 0)=true→onB ms k=true
theorem shut_all(h:Shut R l ms)(h0:onB ms at'=true){q:Nat}(hn:Near R l at' q):onB ms q=true:=by
 induction hn with
 | self _=>exact h0
 | @more k j h1 h2 h3 ih=>exact h k j h1.right h2 ih h3
def onN(ms:List Bool):Nat:=ms.countP id
theorem count_le:∀ {a b:List Bool},a.length=b.length→(∀ q,onB a q=true→onB b q=true)→onN a≤onN b
 | [],[],_,_=>Nat.le_refl _
 | [],_ :: _,h,_=>by simp at h
 | _ :: _,[],h,_=>by simp at h
 | x :: a,y :: b,h,hq=>by
  have ih:=count_le (a:=a) (b:=b) (by simpa using h) fun q hh=>by have:=hq (q+1) (by unfold onB at *;simpa using hh);unfold onB at *;simpa using this
  have h0:=hq 0;unfold onB at h0;unfold onN at *;rw [List.countP_cons,List.countP_cons];cases x <;> cases y <;> simp at * <;> omega
theorem count_lt:∀ {a b:List Bool} {k:Nat},a.length=b.length→(∀ q,onB a q=true→onB b q=true)→onB a k=false→onB b k=true→onN a+1≤onN b
 | [],[],k,_,_,_,h=>by unfold onB at h;simp at h
 | [],_ :: _,_,h,_,_,_=>by simp at h
 | _ :: _,[],_,h,_,_,_=>by simp at h
 | x :: a,y :: b,0,h,hq,h1,h2=>by
  have ih:=count_le (a:=a) (b:=b) (by simpa using h) fun q hh=>by have:=hq (q+1) (by unfold onB at *;simpa using hh);unfold onB at *;simpa using this
  unfold onB at h1 h2;unfold onN at *;rw [List.countP_cons,List.countP_cons];simp at h1 h2;subst h1;subst h2;simp;omega
 | x :: a,y :: b,k+1,h,hq,h1,h2=>by have ih:=count_lt (a:=a) (b:=b) (k:=k) (by simpa using h) (fun q hh=>by have:=hq (q+1) (by unfold onB at *;simpa using hh);unfold onB at *;simpa using this) (by unfold onB at *;simpa using h1) (by unfold onB at *;simpa using h2);have h0:=hq 0;unfold onB at h0;unfold onN at *;rw [List.countP_cons,List.countP_cons];cases x <;> cases y <;> simp at * <;> omega
def Psd(R:List (Nat × Nat))(l:List Nat)(at' p:Nat)(ms:List Bool):Prop:=ms.length=l.length∧onB ms at'=true∧(∀ q,onB ms q=true→Near R l at' q)∧(Shut R l ms∨p+1≤onN ms)
theorem psd_step{p:Nat}(h0:Psd R l at' p ms0)(h:Pss R l at' ms0 l.length 0 ms):Psd R l at' (p+1) ms:=by
 obtain⟨a1,a2,a3,a4⟩:=h0;refine⟨h.len,h.keep _ a2,h.near,?_⟩
 by_cases hs:Shut R l ms0
 · exact .inl fun i k hi hk h1 h2=>h.keep _ (shut_all hs a2 (.more (h.near i h1) hk h2))
 refine .inr ?_;have h4:=a4.resolve_left hs;unfold Shut at hs;obtain⟨i,hi⟩:=Classical.not_forall.1 hs;obtain⟨k,hk⟩:=Classical.not_forall.1 hi;obtain⟨b1,hk⟩:=Classical.not_imp.1 hk;obtain⟨b2,hk⟩:=Classical.not_imp.1 hk;obtain⟨b3,hk⟩:=Classical.not_imp.1 hk;obtain⟨b4,hk⟩:=Classical.not_imp.1 hk;have hlt:=count_lt (a:=ms0) (b:=ms) (k:=k) (by rw [h.len0,h.len]) h.keep (by simpa using hk) (h.done i k (.inl b1) b2 b3 b4);omega
theorem psd_end(h:Psd R l at' l.length ms)(q:Nat):onB ms q=true↔Near R l at' q:=by
 obtain⟨a1,a2,a3,a4⟩:=h;refine⟨a3 q,fun hn => ?_⟩;rcases a4 with a4|a4
 · exact shut_all a4 a2 hn
 have:onN ms≤ms.length:=List.countP_le_length;omega
theorem psd_start(h:at'<l.length):Psd R l at' 0 ((List.replicate l.length false).set at' true):=by
 have hk:at'<(List.replicate l.length false).length:=by simpa using h
 have hz:∀ q,onB (List.replicate l.length false) q=false:=fun q=>by unfold onB;rw [List.getD_eq_getElem?_getD,List.getElem?_replicate];split <;> rfl
 refine⟨by simp,by rw [onB_set hk,if_pos rfl],fun q hq => ?_,.inr ?_⟩
 ·
  rw [onB_set hk] at hq;split at hq
  · rename_i e;rw [e];exact .self h
  rw [hz] at hq;cases hq
 have:=count_lt (a:=List.replicate l.length false) (b:=(List.replicate l.length false).set at' true) (k:=at') (by simp) (fun q hq=>by rw [hz] at hq;cases hq) (hz _) (by rw [onB_set hk,if_pos rfl]);omega
theorem on_side(h:Psd R l at' l.length ms):(List.range l.length).filter (onB ms)=sideM R l at':=by unfold sideM;refine List.filter_congr fun q _ => ?_;rw [Bool.eq_iff_iff,psd_end h,nearD_iff]
end
section
variable{ms:List Bool}
def boolV(ms:List Bool):List Value:=ms.map .bool
theorem boolV_get{k:Nat}(h:k<ms.length):(boolV ms)[k]? = some (.bool (onB ms k)):=by unfold boolV onB;rw [List.getElem?_map,List.getD_eq_getElem?_getD,List.getElem?_eq_getElem h];rfl
theorem boolV_set(ms:List Bool)(k:Nat)(b:Bool):(boolV ms).set k (.bool b)=boolV (ms.set k b):=by unfold boolV;rw [List.map_set]
theorem boolV_zero(n:Nat):boolV (List.replicate n false)=List.replicate n (.bool false):=by unfold boolV;rw [List.map_replicate]
theorem slzBoolR:SlZ Tryz.prog 273 4 (.bool false) 1:=slZ_of Tryz.underlying273 (by kernel_rfl) rfl
structure RsAt (wr w:World) (gR gB:Nat) (cs:List Value) (ms:List Bool):Prop where
 box:ArrT wr gR 103 cs
 arr:ArrT wr gB 4 (boolV ms)
 world:Be w wr
theorem RsAt.over{wr w' w:World}{gR gB:Nat}{cs:List Value}(h:RsAt wr w gR gB cs ms)(hb:Be wr w'):RsAt w' w gR gB cs ms:=⟨h.box.over hb,h.arr.over hb,bvo h.world hb⟩
theorem RsAt.on{wr w:World}{gR gB:Nat}{cs:List Value}(h:RsAt wr w gR gB cs ms)(hg:w.heap.size≤gB)(k:Nat):RsAt (wr.setCell ⟨gB,k,none⟩ (.bool true)) w gR gB cs (ms.set k true):=
 ⟨h.box.set_other (h.box.ne_type h.arr (by decide)) _,by have:=h.arr.set k (.bool true);rwa [boolV_set] at this,h.world.setCell hg _⟩
def Rs1(R:List (Nat × Nat))(l:List Nat)(at':Nat)(w:World)(gR gB:Nat)(cs:List Value)(v8:Value)(wr:World):Prop:=∃(p:Nat) (ms:List Bool),p≤l.length∧v8=.int .i64 p∧Hid (RsAt wr w gR gB cs ms)∧Hid (Psd R l at' p ms)
def Rs2(R:List (Nat × Nat))(l:List Nat)(at':Nat)(w:World)(gR gB:Nat)(cs:List Value)(ms0:List Bool)(v9:Value)(wr:World):Prop:=∃(i:Nat) (ms:List Bool),i≤l.length∧v9=.int .i64 i∧Hid (RsAt wr w gR gB cs ms)∧Hid (Pss R l at' ms0 i 0 ms)
def Rs3(R:List (Nat × Nat))(l:List Nat)(at':Nat)(w:World)(gR gB:Nat)(cs:List Value)(ms0:List Bool)(i:Nat)(v10:Value)(wr:World):Prop:=∃(k:Nat) (ms:List Bool),k≤l.length∧v10=.int .i64 k∧Hid (RsAt wr w gR gB cs ms)∧Hid (Pss R l at' ms0 i k ms)
def Rs4(w w1:World)(l:List Nat)(gB:Nat)(ms:List Bool)(v11 v12:Value)(wr:World):Prop:=∃ j:Nat,j≤l.length∧v12=.int .i64 j∧Hid (GOwn encI 1 3 wr w1.heap.size v11 ((List.range j).filter (onB ms)))∧Hid (Be w1 wr)
attribute [local irreducible] sideM nearB leadB onB boolV
theorem rside_any(n:Nat)(rv:Value)(R:List (Nat × Nat))(v:Value)(l:List Nat)(at':Nat)(w:World)(h:RRel w n rv R)(hv:GRow encI 1 w v l)(hn:l.length≤1000000)(hat:at'<l.length) :
  Calls Tryz.prog 157 #[rrV n rv,v,.int .i64 at'] w (OwnRes encI 1 3 w (sideM R l at')):=by
 obtain⟨ra,rc,rfl,r1,r2,_⟩:=prow_at h.row;unfold maxLen at r2;obtain⟨a,cap,rfl,h1,h2,hc⟩:=irow_at hv;unfold maxLen at h2;obtain⟨b,off,rfl,sb,hcb⟩:=hc.resolve_left (by omega);obtain⟨m,hmm⟩:∃ m,m=l.length:=⟨_,rfl⟩;have HC:=Lh hcb;have HH:=Lh h;have HZ:=Lh (boolV_zero m);have HG:=Lh (arrT_new w [.int .i64 n,.slice ra R.length rc] 103);have HB:=Lh (bnew (w:=w) (.cells #[.int .i64 n,.slice ra R.length rc] 103));have hq:1*m≤281474976710656:=by omega
 have hmx:m≤maxLen:=by unfold maxLen;omega
 rw [← hmm] at h1 hn hat ⊢;have HM:=Lh hmm;clear hv hcb h hc hmm;go_enter Tryz.func157,Tryz.ntmps157;go_upto_region 1 with fail;generalize w.alloc (.cells #[.int .i64 n,.slice ra R.length rc] 103)=w0 at *;try unfold Be at *
 generalize hgR:w.heap.size=gR at *;have HGR:=Lh hgR;clear hgR;have hw0s:=HB.o.size;go_upto_region 2 with(at_make;refine wpList_make_zeros slzBoolR rfl _ _ rfl w0.heap.size m _ rfl rfl rfl hq hmx (Nat.le_refl _) ?_;intro w1 ho1 hg1)
 have HB1:=Lh (grown_over' hg1 (fun g hg=>by cases hg));obtain⟨hA,_⟩:=own_full ho1;obtain⟨gB,hgB⟩:∃ g,g=w0.heap.size:=⟨_,rfl⟩;rw [← hgB] at hA ⊢;rw [← HZ.o] at hA;have HA:=Lh (show RsAt w1 w gR gB _ (List.replicate m false) from⟨HG.o.over HB1.o,hA,by (try unfold Be);rw [HGR.o];exact bov HB.o (by have:=HGR.o;omega) HB1.o⟩);have hgl:w.heap.size≤gB:=by have:=HGR.o;omega
 have a0:=HA.o.arr.arr.cell (boolV_get (ms:=List.replicate m false) (k:=at') (by rw [List.length_replicate];exact hat));have a1:=HA.o.arr.arr.free at';have as':=HA.o.arr.arr.lt;have HA2:=Lh (HA.o.on hgl at');clear hA ho1 hg1 hgB;go_upto_region 3 with fail;generalize w1.setCell ⟨gB,at',none⟩ (.bool true)=w2 at *;clear a0 a1 as';have HP0:Hid (Psd R l at' 0 ((List.replicate m false).set at' true)):=Lh (by rw [HM.o];exact psd_start (by rw [← HM.o];exact hat));go_wp2;go_loopw [8] (fun v8 wr=>Rs1 R l at' w gR gB [.int .i64 n,.slice ra R.length rc] v8 wr) (fun v8 _=>m - (intOf v8).toNat)
 case atStart=>exact⟨0,_,Nat.zero_le _,rfl,HA2,HP0⟩
 obtain⟨p,ms0,hp,rfl,HR1,HP⟩:=hrel;rename World=>wr;rw [← HM.o] at hp
 by_cases hlt:p<m
 rotate_left
 ·
  obtain rfl:p=m:=by omega
  have HSd:Hid ((List.range p).filter (onB ms0)=sideM R l at'):=Lh (by have:=HP.o;rw [HM.o] at this ⊢;exact on_side this);have HLn:Hid (ms0.length=p):=Lh (by rw [HP.o.1,HM.o]);go_wp2;go_loopw [11,12] (fun v11 v12 wq=>Rs4 w wr l gB ms0 v11 v12 wq) (fun _ v12 _=>p - (intOf v12).toNat)
  case atStart=>exact⟨0,Nat.zero_le _,rfl,Lh (gown_nil _ _),Below.refl _ _⟩
  obtain⟨j,hj,rfl,HO,hbl⟩:=hrel;rename World=>wq;rw [← HM.o] at hj;have HBl:=Lh hbl
  by_cases hlt2:j<p
  ·
   have d0:=(HR1.o.arr.over hbl).arr.cell (boolV_get (ms:=ms0) (k:=j) (by rw [HLn.o];exact hlt2));have sd:=(HR1.o.arr.over hbl).arr.lt;have hjl:j<l.length:=(by rw [← HM.o];exact hlt2);cases hon:onB ms0 j with
   | false =>
    rw [hon] at d0;have HO2:Hid (GOwn encI 1 3 wq wr.heap.size u11 ((List.range (j+1)).filter (onB ms0))):=Lh (by rw [List.range_succ,List.filter_append,List.filter_cons_of_neg (by rw [hon];decide),List.filter_nil,List.append_nil];exact HO.o);clear hon hbl;go_wp2;go_roundw
    case rel=>exact⟨j+1,hjl,by go_num,HO2,HBl.o⟩
    simp [intOf];omega
   | true =>
    rw [hon] at d0;have HFi:Hid ((List.range (j+1)).filter (onB ms0)=(List.range j).filter (onB ms0)++[j]):=Lh (by rw [List.range_succ,List.filter_append,List.filter_cons_of_pos hon,List.filter_nil]);have hN:((List.range j).filter (onB ms0)).length+1≤1099511627776:=(by have:=List.length_filter_le (onB ms0) (List.range j);rw [List.length_range] at this;omega);have hB3:=hbl.size;clear hon hbl;go_wp2_with (at_builtin;refine apD slIntI rfl _ _ rfl wr.heap.size _ _ (drf _) 1 _ _ _ HO.o rfl rfl rfl rfl hN (by decide) hB3 ?_;intro v9 w9 ho9 hg9);go_roundw
    case rel=>exact⟨j+1,hjl,by go_num,Lh (by rw [HFi.o];exact GOwn.snoc ho9),bgr HBl.o hB3 HO.o hg9⟩
    simp [intOf];omega
  obtain rfl:j=p:=by omega
  have HE:=HO.o;rw [HSd.o] at HE;have HE2:=Lh (HE.base HR1.o.world.size);clear HE hbl;go_wp2;go_ret;exact⟨_,rfl,HE2.o,bvo HR1.o.world HBl.o⟩
 go_wp2;go_loopw [9] (fun v9 wq=>Rs2 R l at' w gR gB [.int .i64 n,.slice ra R.length rc] ms0 v9 wq) (fun v9 _=>m - (intOf v9).toNat)
 case atStart=>exact⟨0,ms0,Nat.zero_le _,rfl,HR1,Lh (pss_start HP.o.1 HP.o.2.2.1)⟩
 obtain⟨i,ms,hi,rfl,HR2,HQ⟩:=hrel;rename World=>wq;rw [← HM.o] at hi
 by_cases hlt2:i<m
 rotate_left
 ·
  obtain rfl:i=m:=by omega
  have HP2:Hid (Psd R l at' (p+1) ms):=Lh (psd_step HP.o (by have:=HQ.o;rwa [HM.o] at this));go_wp2;go_roundw
  case rel=>exact⟨p+1,ms,by rw [← HM.o];exact hlt,by go_num,HR2,HP2⟩
  simp [intOf];omega
 go_wp2;go_loopw [10] (fun v10 wp=>Rs3 R l at' w gR gB [.int .i64 n,.slice ra R.length rc] ms0 i v10 wp) (fun v10 _=>m - (intOf v10).toNat)
 case atStart=>exact⟨0,ms,Nat.zero_le _,rfl,HR2,HQ⟩
 obtain⟨k,mk,hk,rfl,HR3,HT⟩:=hrel;rename World=>wp;rw [← HM.o] at hk
 by_cases hlt3:k<m
 rotate_left
 ·
  obtain rfl:k=m:=by omega
  have HT2:Hid (Pss R l at' ms0 (i+1) 0 mk):=Lh (pss_next (by have:=HT.o;rwa [HM.o] at this));go_wp2;go_roundw
  case rel=>exact⟨i+1,mk,by rw [← HM.o];exact hlt2,by go_num,HR3,HT2⟩
  simp [intOf];omega
 have hkl:k<l.length:=by rw [← HM.o];exact hlt3
 have hil:i<l.length:=by rw [← HM.o];exact hlt2
 have hml:=HT.o.len;obtain⟨xi,hxi⟩:=gol hil;obtain⟨xk,hxk⟩:=gol hkl;have hgi:l.getD i 0=xi:=by rw [List.getD_eq_getElem?_getD,hxi];rfl
 have hgk:l.getD k 0=xk:=by rw [List.getD_eq_getElem?_getD,hxk];rfl
 have hbw:Below gR w wp:=by rw [← HGR.o];exact HR3.o.world
 obtain⟨sl0,l0⟩:=HC.o i xi hxi wp hbw;have l1:=(HC.o k xk hxk wp hbw).2;have d0:=HR3.o.arr.arr.cell (boolV_get (ms:=mk) (k:=i) (by rw [hml];exact hil));have sd:=HR3.o.arr.arr.lt;obtain⟨g0,g1,sg⟩:=HR3.o.box.arr.c2;have HNr:=Lh (rnear_any n (.slice ra R.length rc) R xi xk wp.drew ((HH.o.over (by (try unfold Be);rw [HGR.o];exact hbw)).over (Below.refl _ _).drew));unfold rrV at HNr;have hnn:nearB R (l.getD i 0) (l.getD k 0)=nearB R xi xk:=by rw [hgi,hgk]
 have HNn:=Lh hnn;clear hxi hxk hgi hgk hbw hml hnn;cases hmi:onB mk i with
 | false =>
  have HT2:Hid (Pss R l at' ms0 i (k+1) mk):=Lh (pss_no HT.o (.inl hmi));rw [hmi] at d0;clear hmi HNr;go_upto_region 12 with fail;refine wlo 16 fun hcur=>?_;repeat refine lxq ?_
  refine lxe ?_;have HRn:=Lh (HR3.o.over hcur);go_wp2;go_roundw
  case rel=>exact⟨k+1,mk,hkl,by go_num,HRn,HT2⟩
  simp [intOf];omega
 | true =>
  have HMi:=Lh hmi;rw [hmi] at d0;clear hmi;cases hnr:nearB R xi xk with
  | false =>
   rw [hnr] at HNr;have HT2:Hid (Pss R l at' ms0 i (k+1) mk):=Lh (pss_no HT.o (.inr (by rw [HNn.o];exact hnr)));clear hnr;go_upto_region 12 with fail;refine wlo 16 fun hcur=>?_;(repeat(first|refine lxq ?_|(refine lxl rfl ?_;go_wp2_with (first|(go_at_call 213;(with_reducible refine(HNr.o).mono ?_);rintro e wf ⟨rfl,hb⟩;have hcur:=bvo hcur hb));refine⟨iov hcur,?_⟩)));refine lxe ?_;have HRn:=Lh (HR3.o.over hcur);go_wp2;go_roundw
   case rel=>exact⟨k+1,mk,hkl,by go_num,HRn,HT2⟩
   simp [intOf];omega
  | true =>
   rw [hnr] at HNr;have HT2:Hid (Pss R l at' ms0 i (k+1) (mk.set k true)):=Lh (pss_yes HT.o HMi.o hkl (by rw [HNn.o];exact hnr));clear hnr;go_upto_region 12 with fail;refine wlo 16 fun hcur=>?_;(repeat(first|refine lxq ?_|(refine lxl rfl ?_;go_wp2_with (first|(go_at_call 213;(with_reducible refine(HNr.o).mono ?_);rintro e wf ⟨rfl,hb⟩;have hcur:=bvo hcur hb));refine⟨iov hcur,?_⟩)));refine lxe ?_;have HRn:=Lh (HR3.o.over hcur);clear hcur d0 sd g0 g1 sg;have d0:=HRn.o.arr.arr.cell (boolV_get (ms:=mk) (k:=k) (by rw [HT.o.len];exact hkl));have d1:=HRn.o.arr.arr.free k;have sd:=HRn.o.arr.arr.lt;have HRo:=Lh (HRn.o.on hgl k);go_wp2;go_roundw
   case rel=>exact⟨k+1,mk.set k true,hkl,by go_num,HRo,HT2⟩
   simp [intOf];omega
end
section
variable{kd:Int}{R:List (Nat × Nat)}{xs ys:List BlL}{l:List Nat}{c gb i lo:Nat}{p:Option Addr}{v:Value}{w w2:World}
theorem rowBlkR:RowT Tryz.prog 175 3:=rowT_of Tryz.underlying175 rfl (by kernel_rfl)
theorem slBlkR:SlT Tryz.prog 108 175 3 40:=slT_of Tryz.underlying108 (by kernel_rfl) (by decide)
structure BXR (w:World) (lo:Nat) (v:Value) (xs:List BlL):Prop where
 own:GOwn encBl 3 175 w lo v xs
 ins:BIns (Fit lo w v.ownBlock) w xs
theorem bxr_nil(w:World)(lo:Nat):BXR w lo (.slice none 0 0) []:=⟨gown_nil _ _,bins_nil⟩
theorem BXR.over{w':World}(h:BXR w lo v xs)(hb:Be w w'):BXR w' lo v xs:=
 ⟨h.own.over hb,BIns.mono (fun b hb'=>⟨hb'.1,Nat.lt_of_lt_of_le hb'.2.1 hb.size,hb'.2.2⟩) (fun _ _ _ h=>h.over hb) xs h.ins⟩
theorem BXR.base{lo':Nat}(h:BXR w lo v xs)(hl:lo'≤lo):BXR w lo' v xs:=
 ⟨h.own.base hl,BIns.mono (fun b hb'=>⟨by have:=hb'.1;omega,hb'.2⟩) (fun _ _ _ h=>h) xs h.ins⟩
theorem BXR.snoc{w9:World}{lo0:Nat}{v9:Value}{x:BlL}(h:BXR w lo v xs)(hx:BIn (fun b=>lo0≤b∧b<w.heap.size∧some b≠v.ownBlock) w x)(hlo:lo≤lo0)
  (ho:GOwn encBl 3 175 w9 lo v9 (xs++[x])) (hg:w.grownBy w9 v.ownBlock) (hk:v9.ownBlock=v.ownBlock∨∃ k,v9.ownBlock=some k∧w.heap.size≤k):BXR w9 lo v9 (xs++[x]):=by
 have hne:∀ b,b<w.heap.size→some b≠v.ownBlock→some b≠v9.ownBlock:=by
  intro b hb hn e;rcases hk with h1|⟨k,h1,h2⟩
  · exact hn (e.trans h1)
  rw [h1] at e;cases e;omega
 refine⟨ho,bins_append ?_ (bins_one ?_)⟩
 · exact BIns.mono (fun b hb=>⟨hb.1,Nat.lt_of_lt_of_le hb.2.1 hg.size,hne b hb.2.1 hb.2.2⟩) (fun u us hu hr=>grow_keptB hg (fun b hb=>(hu b hb).2.2) hr) xs h.ins
 exact BIn.mono (fun b hb=>⟨by have:=hb.1;omega,Nat.lt_of_lt_of_le hb.2.1 hg.size,hne b hb.2.1 hb.2.2⟩) (fun u us hu hr=>grow_keptB hg (fun b hb=>(hu b hb).2.2) hr) x hx
theorem fitr_own(h:BXR w lo v xs){b:Nat}(hb:v.ownBlock=some b):lo≤b∧b<w.heap.size:=⟨gown_low h.own hb,gown_size h.own hb⟩
theorem BXR.block(h:BXR w lo v xs)(k n:Int):BIn (fun b=>lo≤b∧b<w.heap.size) w (.mk k n v xs):=by refine bin_mk.2 ⟨h.own.row,?_,fun b hb=>fitr_own h hb,BIns.mono (fun b hb=>⟨hb.1,hb.2.1⟩) (fun _ _ _ h=>h) xs h.ins⟩;rcases h.own.2 with⟨rfl,_⟩|⟨g,cap,cur,rfl,_⟩ <;> rfl
def RPcRes(w:World)(m:BlkM)(e:Ending)(w':World):Prop:=∃(k n:Int) (sv:Value) (s:List BlL),e=.returned (.agg #[.int .i64 k,.int .i64 n,sv])∧bareB (.mk k n sv s)=m∧BIn (fun b=>w.heap.size≤b∧b<w'.heap.size) w' (.mk k n sv s)∧Be w w'
def ROfRes(w:World)(ms:List BlkM)(e:Ending)(w':World):Prop:=∃ v xs,e=.returned v∧BXR w' w.heap.size v xs∧bareL xs=ms∧Be w w'
theorem BXR.set{k:Nat}{u:Value}(h:BXR w lo v xs)(hg:gb<lo):BXR (w.setCell ⟨gb,k,none⟩ u) lo v xs:=by refine⟨own_set h.own (fun q=>by have:=gown_low h.own q;omega) _ _,?_⟩;exact BIns.mono (fun b hb=>⟨hb.1,by have:=hb.2.1;simpa using this,hb.2.2⟩) (fun us ys hu hr=>grow_keptB (gsc (g:=gb) w k u) (fun b hb e=>by cases e;have:=(hu _ hb).1;omega) hr) xs h.ins
structure RkAt (wr w2:World) (gb:Nat) (kd:Int) (p:Option Addr) (c:Nat) (ys:List BlL):Prop where
 box:ArrT wr gb 175 [.int .i64 kd,.int .i64 0,.slice p ys.length c]
 sub:BXR wr w2.heap.size (.slice p ys.length c) ys
 world:w2.grownBy wr (some gb)
theorem RkAt.over{wr wq:World}(h:RkAt wr w2 gb kd p c ys)(hb:Be wr wq):RkAt wq w2 gb kd p c ys:=
 ⟨h.box.over hb,h.sub.over hb,grown_belowS h.world hb⟩
theorem RkAt.kind{wr:World}(h:RkAt wr w2 gb kd p c ys)(hg:gb<w2.heap.size)(k:Int):RkAt (wr.setCell ⟨gb,0,none⟩ (.int .i64 k)) w2 gb k p c ys:=
 ⟨h.box.set 0 _,h.sub.set hg,gtr h.world (gsc _ _ _)⟩
theorem RkAt.step{w5 w6:World}{p6:Option Addr}{c6:Nat}{x:BlL}
  (h:RkAt w5 w2 gb kd p c ys) (hx:BIn (fun b=>lo≤b∧b<w5.heap.size) w5 x) (hlo:∀ b,(Value.slice p ys.length c).ownBlock=some b→b<lo) (hw:w2.heap.size≤lo) (hgb:gb<w2.heap.size)
  (ho:w6.ownsRow w2.heap.size 175 3 (.slice p6 (ys.length+1) c6) (ys.length+1) (ys.flatMap encBl++encBl x)) (hg:w5.grownBy w6 (Value.slice p ys.length c).ownBlock)
  (hv:(Value.slice p6 (ys.length+1) c6).ownBlock=(Value.slice p ys.length c).ownBlock∨∃ k,(Value.slice p6 (ys.length+1) c6).ownBlock=some k∧w5.heap.size≤k) :
  RkAt (w6.setCell ⟨gb,2,none⟩ (.slice p6 (ys.length+1) c6)) w2 gb kd p6 c6 (ys++[x]):=by
 have hlen:(ys++[x]).length=ys.length+1:=by simp
 have hown:GOwn encBl 3 175 w6 w2.heap.size (.slice p6 (ys.length+1) c6) (ys++[x]):=GOwn.snoc (x:=x) ho;have hnew:=BXR.snoc h.sub (BIn.weak hx fun b hb=>⟨hb.1,hb.2,fun e=>by have:=hlo b e.symm;omega⟩) hw hown hg hv;have hbox:=h.box.kept hg (fun e=>by have:=gown_low h.sub.own e.symm;omega);refine⟨?_,?_,?_⟩
 · rw [hlen];exact hbox.set 2 _
 · rw [hlen];exact hnew.set hgb
 refine gtr ?_ (gsc _ _ _);cases hv2:(Value.slice p ys.length c).ownBlock with
 | none=>rw [hv2] at hg;exact⟨hg.os.trans h.world.os,hg.tape.trans h.world.tape,hg.output.trans h.world.output,Nat.le_trans h.world.size hg.size,fun q hq hn=>(hg.block q (Nat.lt_of_lt_of_le hq h.world.size) (by intro e;cases e)).trans (h.world.block q hq hn)⟩
 | some g2=>rw [hv2] at hg;exact grown_far h.world (gown_low h.sub.own hv2) hg
theorem head_zero(R:List (Nat × Nat))(l:List Nat):headB R l 0=true:=headB_iff.2 fun k hk=>absurd hk (by omega)
theorem knot_side(h:(sidesM R l).length=1)(hi:i<l.length):(sideM R l i).length=l.length:=by
 have h0:0<l.length:=by omega
 have hm0:0∈headsM R l l.length:=mem_heads.2 ⟨h0,head_zero R l⟩;have hall:∀ k,k<l.length→Near R l 0 k:=by
  intro k hk;obtain⟨q,q1,q2,q3⟩:=least_near k k k (Nat.le_refl _) (.self hk);have hmq:q∈headsM R l l.length:=mem_heads.2 ⟨by omega,q2⟩;have hl:(headsM R l l.length).length=1:=by unfold sidesM at h;rwa [List.length_map] at h
  obtain⟨z,hz⟩:=List.length_eq_one_iff.1 hl;rw [hz,List.mem_singleton] at hm0 hmq;rw [hm0,← hmq];exact q3
 unfold sideM;rw [List.filter_eq_self.2 (fun k hk=>nearD_iff.2 (((hall i hi).symm).trans (hall k (List.mem_range.1 hk)))),List.length_range]
theorem fork_side(h:(sidesM R l).length≠1)(hi:i<l.length):(sideM R l i).length≠l.length:=by
 intro e;have h0:0<l.length:=by omega
 have hs:sideM R l 0∈sidesM R l:=by unfold sidesM;exact List.mem_map.2 ⟨0,mem_heads.2 ⟨h0,head_zero R l⟩,rfl⟩
 have:=sides_less h hs;have:(sideM R l 0).length=l.length:=by unfold sideM;rw [List.filter_eq_self.2 (fun k hk=>nearD_iff.2 (((side_all e h0).symm).trans (side_all e (List.mem_range.1 hk)))),List.length_range]
 omega
theorem side_first{x:Nat}(hi:i<l.length)(h:(sideM R l i)[0]? = some x):x=i↔headB R l i=true:=by
 have hp:=side_pair R l i;have hx:x∈sideM R l i:=List.mem_of_getElem? h;have hle:∀ k,k∈sideM R l i→x≤k:=by
  intro k hk
  match hq:sideM R l i with
  | []=>rw [hq] at hk;exact absurd hk (List.not_mem_nil)
  | y :: r =>
   rw [hq] at h hk hp;have e:y=x:=(by simpa using h);subst e;rcases List.mem_cons.1 hk with rfl|hk
   · exact Nat.le_refl _
   exact Nat.le_of_lt ((List.pairwise_cons.1 hp).1 k hk)
 constructor
 · rintro rfl;refine headB_iff.2 fun k hk hn => ?_;have:=hle k (mem_sideM.2 hn.symm);omega
 intro hh;have h1:=hle i (mem_sideM.2 (.self hi));rcases Nat.lt_or_ge x i with h2|h2
 · exact absurd (mem_sideM.1 hx).symm (headB_iff.1 hh x h2)
 omega
theorem side_some(hi:i<l.length):0<(sideM R l i).length:=List.length_pos_of_mem (mem_sideM.2 (.self hi))
attribute [local irreducible] sidesM pieceM blkM thingsM sideM
theorem rpiece_one(n:Nat)(rv:Value)(R:List (Nat × Nat))(F:List Nat→List BlkM)(v:Value)(i:Nat)(w:World)(h:RRel w n rv R)(hv:GRow encI 1 w v [i]) :
  Calls Tryz.prog 95 #[rrV n rv,v] w (RPcRes w (pieceM R F [i])):=by
 obtain⟨ra,rc,rfl,r1,r2,_⟩:=prow_at h.row;unfold maxLen at r2;obtain⟨a,cap,rfl,h1,h2,hc⟩:=irow_at hv;unfold maxLen at h2;obtain⟨b,off,rfl,sb,hcb⟩:=hc.resolve_left (by simp);have HP:=Lh (piece_one R F i);have HC:=Lh hcb;clear hv hcb hc h;go_enter Tryz.func95,Tryz.ntmps95;go_upto_region 1 with fail;have HA0:=Lh (arrT_new w [.int .i64 n,.slice ra R.length rc] 103);have HB0:=Lh (bnew (w:=w) (.cells #[.int .i64 n,.slice ra R.length rc] 103));have HS0:Hid ((w.alloc (.cells #[.int .i64 n,.slice ra R.length rc] 103)).heap.size=w.heap.size+1):=Lh (by simp);have HS1:Hid (((w.alloc (.cells #[.int .i64 n,.slice ra R.length rc] 103)).alloc (.cells #[.int .i64 0,.int .i64 0,.slice none 0 0] 175)).heap.size=(w.alloc (.cells #[.int .i64 n,.slice ra R.length rc] 103)).heap.size+1):=Lh (by simp);generalize w.alloc (.cells #[.int .i64 n,.slice ra R.length rc] 103)=w0 at *;have HA:=Lh (arrT_new w0 [.int .i64 0,.int .i64 0,.slice none 0 0] 175);have HB1:=Lh (bnew (w:=w0) (.cells #[.int .i64 0,.int .i64 0,.slice none 0 0] 175));generalize w0.alloc (.cells #[.int .i64 0,.int .i64 0,.slice none 0 0] 175)=w1 at *;have HGr:=Lh (HA0.o.over HB1.o);have HBw:=Lh (bov HB0.o (by have:=HS0.o;omega) HB1.o);have hs0:=HS0.o;have hs1:=HS1.o;clear HA0 HB0 HB1 HS0 HS1;try rw [← hs0]
 try unfold Be at *
 generalize w0.heap.size=gz at *;try unfold Be at *
 generalize hgR:w.heap.size=gR at *;have HGR:=Lh hgR;have HZ1:Hid (w1.heap.size=gz+1):=Lh hs1;have HZ0:Hid (gz=gR+1):=Lh hs0;clear hs0 hs1 hgR;have HAa:=Lh HA.o.arr;obtain⟨sl,x0'⟩:=HC.o 0 i rfl w1 HBw.o;have x0:w1.cell? ⟨b,off,none⟩=some (.int .i64 i):=x0';clear x0';obtain⟨z0,z1,z2,sz⟩:=HAa.o.c3;have f0:=HAa.o.free 0;have f1:=HAa.o.free 1;have f2:=HAa.o.free 2;go_wp2_with fail;refine bodyPost_ret (v:=.agg #[.int .i64 1,.int .i64 i,.slice none 0 0]) (results_arr rowBlkR rfl (((HA.o.arr.set 0 _).set 1 _).set 2 _) rfl rfl) rfl ?_;refine⟨1,i,.slice none 0 0,[],rfl,(lineL_bare i).trans HP.o.symm,lineL_in _ _ i,?_⟩
 (try unfold Be);rw [HGR.o]
 have hgz:gR≤gz:=by have:=HZ0.o;omega
 exact(((HBw.o.setCell (p:=⟨gz,0,none⟩) hgz (.int .i64 1)).setCell (p:=⟨gz,1,none⟩) hgz (.int .i64 i)).setCell (p:=⟨gz,2,none⟩) hgz (.slice none 0 0))
end
section
def KnRel(w2:World)(gb:Nat)(l:List Nat)(v6:Value)(wr:World):Prop:=∃(j:Nat) (kd:Int) (p:Option Addr) (c:Nat) (ys:List BlL),j≤l.length∧v6=.int .i64 j∧Hid (0<j→kd=3)∧Hid (ys=(l.take j).map lineL)∧Hid (RkAt wr w2 gb kd p c ys)
def FrRel(w2:World)(gb:Nat)(R:List (Nat × Nat))(l:List Nat)(f:Nat)(v6:Value)(wr:World):Prop:=∃(j:Nat) (p:Option Addr) (c:Nat) (ys:List BlL),j≤l.length∧v6=.int .i64 j∧Hid (bareL ys=((headsM R l j).map (sideM R l)).map fun s=>.mk 4 0 (blkM R f (thingsM l s)))∧Hid (RkAt wr w2 gb 2 p c ys)
def ThRelR(wr:World)(l s:List Nat)(v8 v9:Value)(wq:World):Prop:=∃(q:Nat) (p:Option Addr) (c:Nat),q≤s.length∧v9=.int .i64 q∧v8=.slice p (thingsM l (s.take q)).length c∧Hid (GOwn encI 1 3 wq wr.heap.size (.slice p (thingsM l (s.take q)).length c) (thingsM l (s.take q)))∧Be wr wq
attribute [local irreducible] sidesM pieceM blkM thingsM sideM headsM
theorem rpiece_knot(n:Nat)(rv:Value)(R:List (Nat × Nat))(F:List Nat→List BlkM)(v:Value)(l:List Nat)(w:World)(h:RRel w n rv R)(hv:GRow encI 1 w v l)(hn:l.length≤1000000)(h0:0<l.length)(hl1:l.length≠1)(hk:(sidesM R l).length=1) :
  Calls Tryz.prog 95 #[rrV n rv,v] w (RPcRes w (pieceM R F l)):=by
 obtain⟨ra,rc,rfl,r1,r2,_⟩:=prow_at h.row;unfold maxLen at r2;obtain⟨a,cap,rfl,h1,h2,hc⟩:=irow_at hv;unfold maxLen at h2;obtain⟨b,off,rfl,sb,hcb⟩:=hc.resolve_left (by omega);have HC:=Lh hcb;have HV:=Lh hv;have HH:=Lh h;have g1:((l.length:Int) == 1)=false:=by rw [beq_eq_false_iff_ne];omega
 have HL0:Hid (0<l.length):=Lh h0;have H1:=Lh hl1;have HP:=Lh (piece_knot (F:=F) hl1 hk);have HKn:=Lh hk;clear hv hcb hc h hl1 hk;go_enter Tryz.func95,Tryz.ntmps95;go_upto_region 1 with fail;have HA0:=Lh (arrT_new w [.int .i64 n,.slice ra R.length rc] 103);have HB0:=Lh (bnew (w:=w) (.cells #[.int .i64 n,.slice ra R.length rc] 103));have HS0:Hid ((w.alloc (.cells #[.int .i64 n,.slice ra R.length rc] 103)).heap.size=w.heap.size+1):=Lh (by simp);have HS1:Hid (((w.alloc (.cells #[.int .i64 n,.slice ra R.length rc] 103)).alloc (.cells #[.int .i64 0,.int .i64 0,.slice none 0 0] 175)).heap.size=(w.alloc (.cells #[.int .i64 n,.slice ra R.length rc] 103)).heap.size+1):=Lh (by simp);generalize w.alloc (.cells #[.int .i64 n,.slice ra R.length rc] 103)=w0 at *;have HA:=Lh (arrT_new w0 [.int .i64 0,.int .i64 0,.slice none 0 0] 175);have HB1:=Lh (bnew (w:=w0) (.cells #[.int .i64 0,.int .i64 0,.slice none 0 0] 175));generalize w0.alloc (.cells #[.int .i64 0,.int .i64 0,.slice none 0 0] 175)=w1 at *;have HGr:=Lh (HA0.o.over HB1.o);have HBw:=Lh (bov HB0.o (by have:=HS0.o;omega) HB1.o);have hs0:=HS0.o;have hs1:=HS1.o;clear HA0 HB0 HB1 HS0 HS1;try rw [← hs0]
 try unfold Be at *
 generalize w0.heap.size=gz at *;try unfold Be at *
 generalize hgR:w.heap.size=gR at *;have HGR:=Lh hgR;have HZ1:Hid (w1.heap.size=gz+1):=Lh hs1;have HZ0:Hid (gz=gR+1):=Lh hs0;clear hs0 hs1 hgR;go_upto_region 4 with fail;have HBx:=Lh (arrT_new w1 [.int .i64 2,.int .i64 0,.slice none 0 0] 175);have HN1:=Lh (bnew (w:=w1) (.cells #[.int .i64 2,.int .i64 0,.slice none 0 0] 175));have HS2:Hid ((w1.alloc (.cells #[.int .i64 2,.int .i64 0,.slice none 0 0] 175)).heap.size=w1.heap.size+1):=Lh (by simp);generalize w1.alloc (.cells #[.int .i64 2,.int .i64 0,.slice none 0 0] 175)=w2 at *;try unfold Be at *
 generalize hgb:w1.heap.size=gb at *;have HGB:=Lh hgb;have HZ2:Hid (w2.heap.size=gb+1):=HS2;have hzl:gb<w2.heap.size:=by have:=HZ2.o;omega
 clear hgb;have HF0:Hid (RkAt w2 w2 gb 2 none 0 []):=Lh ⟨HBx.o,bxr_nil _ _,World.grownBy.refl _ _⟩;go_wp2;go_loopw [6,7] (fun v6 _ wr=>KnRel w2 gb l v6 wr) (fun v6 _ _=>l.length - (intOf v6).toNat)
 case atStart=>exact⟨0,2,none,0,[],Nat.zero_le _,rfl,Lh (fun h=>absurd h (by omega)),Lh (by rw [List.take_zero];rfl),HF0⟩
 obtain⟨j,kd,p,c,ys,hj,rfl,HKd,HYs,HK⟩:=hrel;rename World=>wr;have HBr:Hid (Be w1 wr):=Lh (by
  have h9:=HN1.o
  (try unfold Be);rw [HGB.o]
  exact h9.grown HK.o.world (by have:=HZ2.o;omega) (fun k hk=>by cases hk;exact Nat.le_refl _))
 have HBz:Hid (Below gR w wr):=Lh (bov HBw.o (by have:=HGB.o;have:=HZ1.o;have:=HZ0.o;omega) HBr.o);have HGq:=Lh ((HGr.o.over HBr.o).arr);have hwl:=HK.o.world.size
 by_cases hlt:j<l.length
 rotate_left
 ·
  obtain rfl:j=l.length:=by omega
  obtain rfl:=HKd.o HL0.o;have HAr:=Lh ((HA.o.over HBr.o).arr);have HBA:=Lh HK.o.box.arr;have hzg:gz<w2.heap.size:=by have:=HZ2.o;have:=HGB.o;have:=HZ1.o;omega
  have hzw:w.heap.size≤w2.heap.size:=by have:=HGR.o;have:=HZ0.o;omega
  have HPe:Hid (pieceM R F l=.mk 3 0 (bareL ys)):=Lh (by rw [HP.o,HYs.o,List.take_length,lines_bare]);have hgz:gR≤gz:=by have:=HZ0.o;omega
  obtain⟨y0,y1,y2,sy⟩:=HAr.o.c3;obtain⟨b0,b1,b2,sb⟩:=HBA.o.c3;have k0:=HAr.o.free 0;have k1:=HAr.o.free 1;have k2:=HAr.o.free 2;go_wp2_with fail;refine bodyPost_ret (v:=.agg #[.int .i64 3,.int .i64 0,.slice p ys.length c]) (results_arr rowBlkR rfl (((HAr.o.set 0 _).set 1 _).set 2 _) rfl rfl) rfl ?_;refine⟨3,0,.slice p ys.length c,ys,rfl,?_,?_,?_⟩
  · rw [HPe.o];unfold bareB;rfl
  · exact pc_store (gz:=gz) (HK.o.sub.block 3 0) (gtr (gtr (gsc wr 0 _) (gsc _ 1 _)) (gsc _ 2 _)) hzg hzw
  (try unfold Be);rw [HGR.o];exact(((HBz.o.setCell (p:=⟨gz,0,none⟩) hgz (.int .i64 3)).setCell (p:=⟨gz,1,none⟩) hgz (.int .i64 0)).setCell (p:=⟨gz,2,none⟩) hgz (.slice p ys.length c))
 obtain⟨x,hx⟩:=gol hlt;have HSu:=Lh (sm_succ hx);have HX:=Lh hx;have HFull:=Lh (knot_side HKn.o hlt);have HN6:Hid (ys.length+1≤1099511627776):=Lh (by rw [HYs.o,List.length_map,List.length_take];omega);have HSi:=Lh (rside_any n (.slice ra R.length rc) R _ l j _ (HH.o.over (by (try unfold Be);rw [HGR.o];exact HBz.o)) (HV.o.over (by (try unfold Be);rw [HGR.o];exact HBz.o)) hn hlt);unfold rrV at HSi;obtain⟨g0,g1,sg⟩:=HGq.o.c2;clear hx;go_wp2_with fail
 with_reducible refine(HSi.o).mono ?_
 rintro e wc ⟨sv,rfl,hos,hbs⟩;obtain⟨ps,cs',es,_,_,_⟩:=irow_at hos.row;rw [HFull.o] at es;subst es;have HBc:=Lh hbs;have HKc:=Lh (HK.o.over HBc.o);have HKa:=Lh HKc.o.box.arr;have HKk:=Lh (HKc.o.kind hzl 3);have HBk:Hid (Below gR w (wc.setCell ⟨gb,0,none⟩ (.int .i64 3))):=Lh ((bov HBz.o (by have:=HBz.o.size;have:=HGR.o;omega) HBc.o).setCell (by show gR≤gb;have:=HGB.o;have:=HZ1.o;have:=HZ0.o;omega) _);have HZk:Hid (wc.heap.size≤(wc.setCell ⟨gb,0,none⟩ (.int .i64 3)).heap.size):=Lh (by simp [World.setCell]);clear hos hbs g0 g1 sg;obtain⟨k0,k1,k2,sk⟩:=HKa.o.c3;have f0:=HKa.o.free 0;go_upto_region 10 with fail;generalize wc.setCell ⟨gb,0,none⟩ (.int .i64 3)=wk at *;clear k0 k1 k2 sk f0;obtain⟨sl,x0⟩:=HC.o j x HX.o wk HBk.o;have HKb:=Lh HKk.o.box.arr;obtain⟨k0,k1,k2,sk⟩:=HKb.o.c3;refine wlo 8 fun hcur=>?_;repeat(first|refine lxq ?_|(refine lxl rfl ?_;go_wp2_with (first|(fail));refine⟨iov (by first|exact hcur|exact hcur.alloc hcur.size _),?_⟩))
 refine lxe ?_;have HK5:=HKk;have HO5:=Lh HK5.o.sub.own;have hB6:w2.heap.size≤wk.heap.size:=Nat.le_trans hwl (Nat.le_trans HBc.o.size HZk.o);have hlo5:∀ b,(Value.slice p ys.length c).ownBlock=some b→b<wk.heap.size:=fun b hb=>gown_size HKk.o.sub.own hb;have hwl:=hB6;clear hcur;go_wp2_with (at_builtin;(first|refine wpList_append_newK slBlkR rfl _ _ rfl w2.heap.size #[.int .i64 1,.int .i64 x,.slice none 0 0] 175 (drf _) 1 _ _ _ HO5.o rfl rfl rfl rfl HN6.o (by decide) hB6 ?_|refine wpList_append_newK slBlkR rfl _ _ rfl w2.heap.size #[.int .i64 1,.int .i64 x,.slice none 0 0] 175 (ddw _) 1 _ _ _ HO5.o rfl rfl rfl rfl HN6.o (by decide) hB6 ?_);intro v6 w6 ho6 hg6 hv6;(obtain⟨p6,c6,e6,_,_,_⟩:=(GOwn.row (GOwn.snoc (x:=lineL x) ho6)).at encBl_len);(have e7:v6=.slice p6 (ys.length+1) c6:=by rw [e6,List.length_append];rfl);clear e6;subst e7;have HST:=Lh (HK5.o.step (x:=lineL x) (lineL_in _ _ x) hlo5 hwl hzl ho6 hg6 hv6);have HB6:=Lh (ArrT.arr (HK5.o.box.kept hg6 (fun e=>by have:=gown_low HK5.o.sub.own e.symm;omega)));have t2:=HB6.o.k 2 rfl;have t3:=HB6.o.free 2;have st:=HB6.o.lt;clear ho6 hg6 hv6);go_roundw
 case rel=>exact⟨j+1,3,p6,c6,ys++[lineL x],hlt,by go_num,Lh (fun _=>rfl),Lh (by rw [HYs.o,HSu.o]),HST⟩
 simp [intOf];omega
theorem rpiece_fork(f n:Nat)(rv:Value)(R:List (Nat × Nat))(v:Value)(l:List Nat)(w:World)(h:RRel w n rv R)(hv:GRow encI 1 w v l)(hn:l.length≤1000000)(h0:0<l.length)(hl1:l.length≠1)(hk:(sidesM R l).length≠1)(hf:l.length≤f)
  (hOf:∀(t:List Nat) (tv u:Value) (W:World),t.length<f→t.length≤1000000→RRel W n u R→GRow encI 1 W tv t→Calls Tryz.prog 46 #[rrV n u,tv] W (ROfRes W (blkM R f t))) :
  Calls Tryz.prog 95 #[rrV n rv,v] w (RPcRes w (pieceM R (blkM R f) l)):=by
 obtain⟨ra,rc,rfl,r1,r2,_⟩:=prow_at h.row;unfold maxLen at r2;obtain⟨a,cap,rfl,h1,h2,hc⟩:=irow_at hv;unfold maxLen at h2;obtain⟨b,off,rfl,sb,hcb⟩:=hc.resolve_left (by omega);have HC:=Lh hcb;have HV:=Lh hv;have HH:=Lh h;have g1:((l.length:Int) == 1)=false:=by rw [beq_eq_false_iff_ne];omega
 have HL0:Hid (0<l.length):=Lh h0;have H1:=Lh hl1;have HP:=Lh (piece_fork (F:=blkM R f) hl1 hk);have HFk:=Lh hk;have HOf:=Lh hOf;have HF:=Lh hf;clear hv hcb hc h hl1 hk hOf hf;go_enter Tryz.func95,Tryz.ntmps95;go_upto_region 1 with fail;have HA0:=Lh (arrT_new w [.int .i64 n,.slice ra R.length rc] 103);have HB0:=Lh (bnew (w:=w) (.cells #[.int .i64 n,.slice ra R.length rc] 103));have HS0:Hid ((w.alloc (.cells #[.int .i64 n,.slice ra R.length rc] 103)).heap.size=w.heap.size+1):=Lh (by simp);have HS1:Hid (((w.alloc (.cells #[.int .i64 n,.slice ra R.length rc] 103)).alloc (.cells #[.int .i64 0,.int .i64 0,.slice none 0 0] 175)).heap.size=(w.alloc (.cells #[.int .i64 n,.slice ra R.length rc] 103)).heap.size+1):=Lh (by simp);generalize w.alloc (.cells #[.int .i64 n,.slice ra R.length rc] 103)=w0 at *;have HA:=Lh (arrT_new w0 [.int .i64 0,.int .i64 0,.slice none 0 0] 175);have HB1:=Lh (bnew (w:=w0) (.cells #[.int .i64 0,.int .i64 0,.slice none 0 0] 175));generalize w0.alloc (.cells #[.int .i64 0,.int .i64 0,.slice none 0 0] 175)=w1 at *;have HGr:=Lh (HA0.o.over HB1.o);have HBw:=Lh (bov HB0.o (by have:=HS0.o;omega) HB1.o);have hs0:=HS0.o;have hs1:=HS1.o;clear HA0 HB0 HB1 HS0 HS1;try rw [← hs0]
 try unfold Be at *
 generalize w0.heap.size=gz at *;try unfold Be at *
 generalize hgR:w.heap.size=gR at *;have HGR:=Lh hgR;have HZ1:Hid (w1.heap.size=gz+1):=Lh hs1;have HZ0:Hid (gz=gR+1):=Lh hs0;clear hs0 hs1 hgR;go_upto_region 4 with fail;have HBx:=Lh (arrT_new w1 [.int .i64 2,.int .i64 0,.slice none 0 0] 175);have HN1:=Lh (bnew (w:=w1) (.cells #[.int .i64 2,.int .i64 0,.slice none 0 0] 175));have HS2:Hid ((w1.alloc (.cells #[.int .i64 2,.int .i64 0,.slice none 0 0] 175)).heap.size=w1.heap.size+1):=Lh (by simp);generalize w1.alloc (.cells #[.int .i64 2,.int .i64 0,.slice none 0 0] 175)=w2 at *;try unfold Be at *
 generalize hgb:w1.heap.size=gb at *;have HGB:=Lh hgb;have HZ2:Hid (w2.heap.size=gb+1):=HS2;have hzl:gb<w2.heap.size:=by have:=HZ2.o;omega
 clear hgb;have HF0:Hid (RkAt w2 w2 gb 2 none 0 []):=Lh ⟨HBx.o,bxr_nil _ _,World.grownBy.refl _ _⟩;go_wp2;go_loopw [6,7,8,9] (fun v6 _ _ _ wr=>FrRel w2 gb R l f v6 wr) (fun v6 _ _ _ _=>l.length - (intOf v6).toNat)
 case atStart=>exact⟨0,none,0,[],Nat.zero_le _,rfl,Lh (by unfold headsM;rfl),HF0⟩
 obtain⟨j,p,c,ys,hj,rfl,HBa,HK⟩:=hrel;rename World=>wr;have HBr:Hid (Be w1 wr):=Lh (by
  have h9:=HN1.o
  (try unfold Be);rw [HGB.o]
  exact h9.grown HK.o.world (by have:=HZ2.o;omega) (fun k hk=>by cases hk;exact Nat.le_refl _))
 have HBz:Hid (Below gR w wr):=Lh (bov HBw.o (by have:=HGB.o;have:=HZ1.o;have:=HZ0.o;omega) HBr.o);have HGq:=Lh ((HGr.o.over HBr.o).arr);have hwl:=HK.o.world.size
 by_cases hlt:j<l.length
 rotate_left
 ·
  obtain rfl:j=l.length:=by omega
  have HAr:=Lh ((HA.o.over HBr.o).arr);have HBA:=Lh HK.o.box.arr;have hzg:gz<w2.heap.size:=by have:=HZ2.o;have:=HGB.o;have:=HZ1.o;omega
  have hzw:w.heap.size≤w2.heap.size:=by have:=HGR.o;have:=HZ0.o;omega
  have HPe:Hid (pieceM R (blkM R f) l=.mk 2 0 (bareL ys)):=Lh (by rw [HP.o,HBa.o];unfold sidesM;rfl);have hgz:gR≤gz:=by have:=HZ0.o;omega
  obtain⟨y0,y1,y2,sy⟩:=HAr.o.c3;obtain⟨b0,b1,b2,sb⟩:=HBA.o.c3;have k0:=HAr.o.free 0;have k1:=HAr.o.free 1;have k2:=HAr.o.free 2;go_wp2_with fail;refine bodyPost_ret (v:=.agg #[.int .i64 2,.int .i64 0,.slice p ys.length c]) (results_arr rowBlkR rfl (((HAr.o.set 0 _).set 1 _).set 2 _) rfl rfl) rfl ?_;refine⟨2,0,.slice p ys.length c,ys,rfl,?_,?_,?_⟩
  · rw [HPe.o];unfold bareB;rfl
  · exact pc_store (gz:=gz) (HK.o.sub.block 2 0) (gtr (gtr (gsc wr 0 _) (gsc _ 1 _)) (gsc _ 2 _)) hzg hzw
  (try unfold Be);rw [HGR.o];exact(((HBz.o.setCell (p:=⟨gz,0,none⟩) hgz (.int .i64 2)).setCell (p:=⟨gz,1,none⟩) hgz (.int .i64 0)).setCell (p:=⟨gz,2,none⟩) hgz (.slice p ys.length c))
 have HFull:=Lh (fork_side HFk.o hlt);have HFew:=Lh (side_few (R:=R) (l:=l) (i:=j));have HPos:=Lh (side_some (R:=R) hlt);have HNm:Hid (∀ u,u∈sideM R l j→u<l.length):=Lh fun u hu=>(mem_sideM.1 hu).right;have HFi:Hid (∀ x,(sideM R l j)[0]? = some x→(x=j↔headB R l j=true)):=Lh fun x hx=>side_first hlt hx;have HHs:=Lh (heads_succ R l j);have HSi:=Lh (rside_any n (.slice ra R.length rc) R _ l j _ (HH.o.over (by (try unfold Be);rw [HGR.o];exact HBz.o)) (HV.o.over (by (try unfold Be);rw [HGR.o];exact HBz.o)) hn hlt);unfold rrV at HSi;obtain⟨g0,g1,sg⟩:=HGq.o.c2;go_wp2_with fail
 with_reducible refine(HSi.o).mono ?_
 rintro e wc ⟨sv,rfl,hos,hbs⟩;obtain⟨s,hs⟩:∃ s,s=sideM R l j:=⟨_,rfl⟩;have HS:=Lh hs;rw [← hs] at hos;obtain⟨ps,cs',rfl,z1,z2,hcs⟩:=irow_at hos.row;unfold maxLen at z2;have g2:((s.length:Int) == (l.length:Int))=false:=by rw [beq_eq_false_iff_ne];have:=HFull.o;rw [← hs] at this;omega
 have hsl:s.length<l.length:=by have:=HFull.o;have:=HFew.o;rw [← hs] at *;omega
 have hsp:0<s.length:=by have:=HPos.o;rw [← hs] at this;exact this
 obtain⟨bs,os,rfl,sbs,hcs2⟩:=hcs.resolve_left (by omega);obtain⟨x,hx⟩:=gol hsp;have HBc:=Lh hbs;have HBcz:Hid (Below gR w wc):=Lh (bov HBz.o (by have:=HBz.o.size;have:=HGR.o;omega) HBc.o);have HKc:=Lh (HK.o.over HBc.o);have HCS:=Lh hcs2;obtain⟨sx,y0'⟩:=hcs2 0 x hx wc (Below.refl _ _);have y0:wc.cell? ⟨bs,os,none⟩=some (.int .i64 x):=y0';have HX:=Lh (HFi.o x (by rw [← hs];exact hx));have hxl:x<l.length:=HNm.o x (by rw [← hs];exact List.mem_of_getElem? hx);have hwc:w2.heap.size≤wc.heap.size:=Nat.le_trans hwl HBc.o.size;clear hos hbs g0 g1 sg hs y0' hcs2 hcs hx;cases hh:headB R l j with
 | false =>
  have hne:x≠j:=fun e=>by rw [HX.o.1 e] at hh;cases hh
  have g3:((x:Int) != (j:Int))=true:=by rw [bne_iff_ne];omega
  have HBa2:Hid (bareL ys=((headsM R l (j+1)).map (sideM R l)).map fun s=>.mk 4 0 (blkM R f (thingsM l s))):=Lh (by rw [HHs.o,hh];simpa using HBa.o);clear hh hne;go_wp2;go_roundw
  case rel=>exact⟨j+1,p,c,ys,hlt,by go_num,HBa2,HKc⟩
  simp [intOf];omega
 | true =>
  obtain rfl:x=j:=HX.o.2 hh;have HBs:Hid (((headsM R l (x+1)).map (sideM R l)).map (fun s=>BlkM.mk 4 0 (blkM R f (thingsM l s)))=((headsM R l x).map (sideM R l)).map (fun s=>.mk 4 0 (blkM R f (thingsM l s)))++[.mk 4 0 (blkM R f (thingsM l s))]):=Lh (by rw [HHs.o,hh,HS.o];simp);have HN6:Hid (ys.length+1≤1099511627776):=Lh (by have h9:=congrArg List.length HBa.o;rw [bareL_map,List.length_map,List.length_map,List.length_map] at h9;have:=heads_few R l x;omega);clear hh;go_wp2;go_loopw [8,9] (fun v8 v9 wq=>ThRelR wc l s v8 v9 wq) (fun _ v9 _=>s.length - (intOf v9).toNat)
  case atStart=>exact⟨0,none,0,Nat.zero_le _,rfl,by rw [List.take_zero,things_nil];rfl,Lh (by rw [List.take_zero,things_nil];exact gown_nil _ _),Below.refl _ _⟩
  obtain⟨q,p9,c9,hq,rfl,rfl,HT,hbq⟩:=hrel;rename World=>wq;have HBq:=Lh hbq
  by_cases hlt2:q<s.length
  ·
   obtain⟨u,hu⟩:=gol hlt2;obtain⟨su,u0⟩:=HCS.o q u hu wq hbq;have hul:=HNm.o u (by rw [← HS.o];exact List.mem_of_getElem? hu);obtain⟨y,hy⟩:=gol hul;obtain⟨sy2,l0⟩:=HC.o u y hy wq (bov HBcz.o (by have:=HBcz.o.size;have:=HGR.o;omega) hbq);have HTs:=Lh (things_step hu hy);have hN:(thingsM l (s.take q)).length+1≤1099511627776:=(by unfold thingsM;rw [List.length_map,List.length_take];omega);have hB3:=hbq.size;clear hu hy y0 sx;go_wp2_with (at_builtin;refine apD slIntI rfl _ _ rfl wc.heap.size _ _ (drf _) 1 _ _ _ HT.o rfl rfl rfl rfl hN (by decide) hB3 ?_;intro v9 w9 ho9 hg9);obtain⟨p8,c8,e8,hO8⟩:=iown_more ho9;subst e8;go_roundw
   case rel=>exact⟨q+1,p8,c8,hlt2,by go_num,by rw [HTs.o],Lh (by rw [HTs.o];exact hO8),bgr HBq.o hB3 HT.o hg9⟩
   simp [intOf];omega
  obtain rfl:q=s.length:=by omega
  rw [List.take_length] at HT;rw [List.take_length];have HKq:=Lh (HKc.o.over hbq);have HKb:=Lh HKq.o.box.arr;have hbw:Below gR w wq:=bov HBcz.o (by have:=HBcz.o.size;have:=HGR.o;omega) hbq;have HGp:=Lh ((HGr.o.over (bvo HBr.o (bvo HBc.o hbq))).arr);have HOc:Hid (∀ W,Be wq W→Calls Tryz.prog 46 #[.agg #[.int .i64 n,.slice ra R.length rc],.slice p9 (thingsM l s).length c9] W (ROfRes W (blkM R f (thingsM l s)))):=Lh fun W hW=>HOf.o _ _ _ W (by unfold thingsM;rw [List.length_map];have:=HF.o;omega) (by unfold thingsM;rw [List.length_map];omega) ((HH.o.over (by (try unfold Be);rw [HGR.o];exact hbw)).over hW) (HT.o.over hW).row;have hwq:w2.heap.size≤wq.heap.size:=Nat.le_trans hwc hbq.size;clear hbw y0 sx;obtain⟨b0,b1,b2,sb⟩:=HKb.o.c3;obtain⟨g0,g1,sg⟩:=HGp.o.c2;go_upto_region 17 with fail;refine wlo 7 fun hcur=>?_;repeat(first|refine lxq ?_|(refine lxl rfl ?_;go_wp2_with (first|(go_at_call 46;(with_reducible refine(HOc.o _ hcur).mono ?_);rintro e w5 ⟨v5,ys5,rfl,hx5,hr5,hb5⟩;(obtain⟨p5,c5,e5,_,_,_⟩:=hx5.own.row.at encBl_len);subst e5;have HX5:Hid (BXR w5 wq.heap.size (.slice p5 ys5.length c5) ys5):=Lh hx5;have HR5:=Lh hr5;replace hcur:=bvo hcur hb5;clear hx5 hr5 hb5));refine⟨iov (by first|exact hcur|exact hcur.alloc hcur.size _),?_⟩))
  refine lxe ?_;have HK5:=Lh (HKq.o.over hcur);have HO5:=Lh HK5.o.sub.own;have hB6:w2.heap.size≤w5.heap.size:=Nat.le_trans hwq hcur.size;have hlo5:∀ b,(Value.slice p ys.length c).ownBlock=some b→b<wq.heap.size:=fun b hb=>gown_size HKq.o.sub.own hb;have hwl:=hwq;clear hcur;go_wp2_with (at_builtin;(first|refine wpList_append_newK slBlkR rfl _ _ rfl w2.heap.size #[.int .i64 4,.int .i64 0,.slice p5 ys5.length c5] 175 (drf _) 1 _ _ _ HO5.o rfl rfl rfl rfl HN6.o (by decide) hB6 ?_|refine wpList_append_newK slBlkR rfl _ _ rfl w2.heap.size #[.int .i64 4,.int .i64 0,.slice p5 ys5.length c5] 175 (ddw _) 1 _ _ _ HO5.o rfl rfl rfl rfl HN6.o (by decide) hB6 ?_);intro v6 w6 ho6 hg6 hv6;(obtain⟨p6,c6,e6,_,_,_⟩:=(GOwn.row (GOwn.snoc (x:=BlL.mk 4 0 (.slice p5 ys5.length c5) ys5) ho6)).at encBl_len);(have e7:v6=.slice p6 (ys.length+1) c6:=by rw [e6,List.length_append];rfl);clear e6;subst e7;have HST:=Lh (HK5.o.step (x:=BlL.mk 4 0 (.slice p5 ys5.length c5) ys5) (HX5.o.block 4 0) hlo5 hwl hzl ho6 hg6 hv6);have HB6:=Lh (ArrT.arr (HK5.o.box.kept hg6 (fun e=>by have:=gown_low HK5.o.sub.own e.symm;omega)));have t2:=HB6.o.k 2 rfl;have t3:=HB6.o.free 2;have st:=HB6.o.lt;clear ho6 hg6 hv6);go_roundw
  case rel=>exact⟨x+1,p6,c6,_,hlt,by go_num,Lh (by rw [bareL_snoc,HBa.o,HBs.o];congr 2;unfold bareB;rw [HR5.o]),HST⟩
  simp [intOf];omega
end
section
theorem rpiece_any(f n:Nat)(rv:Value)(R:List (Nat × Nat))(v:Value)(l:List Nat)(w:World)(h:RRel w n rv R)(hv:GRow encI 1 w v l)(hn:l.length≤1000000)(h0:0<l.length)(hf:l.length≤f)
  (hOf:∀(t:List Nat) (tv u:Value) (W:World),t.length<f→t.length≤1000000→RRel W n u R→GRow encI 1 W tv t→Calls Tryz.prog 46 #[rrV n u,tv] W (ROfRes W (blkM R f t))) :
  Calls Tryz.prog 95 #[rrV n rv,v] w (RPcRes w (pieceM R (blkM R f) l)):=by
 by_cases h1:l.length=1
 · obtain⟨i,rfl⟩:=List.length_eq_one_iff.1 h1;exact rpiece_one n rv R _ v i w h hv
 by_cases h2:(sidesM R l).length=1
 · exact rpiece_knot n rv R _ v l w h hv hn h0 h1 h2
 exact rpiece_fork f n rv R v l w h hv hn h0 h1 h2 hf hOf
theorem of_snocR{w w3 w6 wr:World}{v v6:Value}{xs ys3:List BlL}{k3 n3:Int}{s3:Value}{lo:Nat}(h:BXR w3 w.heap.size v xs)(hx:BIn (fun b=>lo≤b∧b<w3.heap.size) w3 (.mk k3 n3 s3 ys3))(hlo:wr.heap.size≤lo)(hw:w.heap.size≤wr.heap.size)(hv:∀ b,v.ownBlock=some b→b<wr.heap.size)
  (ho:w6.ownsRow w.heap.size 175 3 v6 (xs.length+1) (xs.flatMap encBl++[.int .i64 k3,.int .i64 n3,s3])) (hg:w3.grownBy w6 v.ownBlock) (hk:v6.ownBlock=v.ownBlock∨∃ k,v6.ownBlock=some k∧w3.heap.size≤k):BXR w6 w.heap.size v6 (xs++[.mk k3 n3 s3 ys3]):=
 BXR.snoc h (BIn.weak hx fun b hb=>⟨hb.1,hb.2,fun e=>by have:=hv b e.symm;omega⟩) (by omega) (GOwn.snoc (x:=BlL.mk k3 n3 s3 ys3) ho) hg hk
def RoRel(w0:World)(R:List (Nat × Nat))(f:Nat)(l:List Nat)(v5 v6 v7:Value)(wr:World):Prop:=∃(i at':Nat) (xs:List BlL),1≤i∧i≤l.length+1∧v7=.int .i64 i∧v6=.int .i64 at'∧Hid (BXR wr w0.heap.size v5 xs)∧Hid (bareL xs=(piecesTo R l (i - 1)).1.map (pieceM R (blkM R f)))∧at'=(piecesTo R l (i - 1)).2∧Be w0 wr
theorem pieces_yes1{R:List (Nat × Nat)}{l:List Nat}{i:Nat}(h1:1≤i)(h:i=l.length∨cutB R l i=true):piecesTo R l i=((piecesTo R l (i - 1)).1++[(l.take i).drop (piecesTo R l (i - 1)).2],i):=by obtain⟨k,rfl⟩:∃ k,i=k+1:=⟨i - 1,by omega⟩;rw [Nat.add_sub_cancel];exact pieces_yes h
theorem pieces_no1{R:List (Nat × Nat)}{l:List Nat}{i:Nat}(h1:1≤i)(h:¬ (i=l.length∨cutB R l i=true)):piecesTo R l i=piecesTo R l (i - 1):=by obtain⟨k,rfl⟩:∃ k,i=k+1:=⟨i - 1,by omega⟩;rw [Nat.add_sub_cancel];exact pieces_no h
attribute [local irreducible] piecesTo pieceM blkM cutB
theorem rof22_any(n:Nat)(R:List (Nat × Nat)):∀(f:Nat) (l:List Nat) (v rv:Value) (w:World),l.length<f→l.length≤1000000→RRel w n rv R→GRow encI 1 w v l →
  Calls Tryz.prog 46 #[rrV n rv,v] w (ROfRes w (blkM R f l))
 | 0,l,v,rv,w,hf,_,_,_=>absurd hf (Nat.not_lt_zero _)
 | f+1,l,v,rv,w,hf,hn,h,hv=>by
  have hih:=rof22_any n R f;obtain⟨ra,rc,rfl,r1,r2,_⟩:=prow_at h.row;unfold maxLen at r2;obtain⟨a,cap,rfl,h1,h2,hc⟩:=irow_at hv;unfold maxLen at h2;have HV:=Lh hv;have HH:=Lh h;have HIH:Hid (∀(t:List Nat) (tv u:Value) (W:World),t.length<f→t.length≤1000000→RRel W n u R→GRow encI 1 W tv t→Calls Tryz.prog 46 #[rrV n u,tv] W (ROfRes W (blkM R f t))):=Lh fun t tv u W ht h0 h1 h2=>hih t tv u W ht h0 h1 h2;have HBK:Hid (blkM R (f+1) l=(piecesTo R l l.length).1.map (pieceM R (blkM R f))):=Lh (by rw [blkM];rfl);have HG:=Lh (anw w #[.int .i64 n,.slice ra R.length rc] 103);have HB:=Lh (bnew (w:=w) (.cells #[.int .i64 n,.slice ra R.length rc] 103));clear hv h hih;go_enter Tryz.func46,Tryz.ntmps46;go_upto_region 1 with fail;generalize w.alloc (.cells #[.int .i64 n,.slice ra R.length rc] 103)=w0 at *;go_wp2;go_loopw [5,6,7] (fun v5 v6 v7 wr=>RoRel w0 R f l v5 v6 v7 wr) (fun _ _ v7 _=>l.length+1 - (intOf v7).toNat)
  case atStart=>exact⟨1,0,[],by omega,by omega,rfl,rfl,Lh (bxr_nil _ _),Lh (by rw [show 1 - 1=0 from rfl,pieces_zero];rfl),by rw [show 1 - 1=0 from rfl,pieces_zero],Below.refl _ _⟩
  obtain⟨i,at',xs,hi1,hi,rfl,rfl,HX,HBa,hat,hbl⟩:=hrel;rename World=>wr;have HBr:=Lh hbl;have hai:at'<i:=by rw [hat];have:=pieces_at R l (i - 1);omega
  have HAt:=Lh hat.symm;have HXl:Hid (xs.length+1≤1099511627776):=Lh (by have h9:=congrArg List.length HBa.o;rw [bareL_map,List.length_map,List.length_map] at h9;have:=pieces_few R l (i - 1);omega);have HBw:=Lh (bvo HB.o hbl);clear hat hbl
  by_cases hlt:i≤l.length
  rotate_left
  · obtain rfl:i=l.length+1:=(by omega);go_wp2;go_ret;exact⟨_,xs,rfl,HX.o.base HB.o.size,by rw [HBa.o,HBK.o,Nat.add_sub_cancel],HBw.o⟩
  obtain⟨b,off,rfl,sb,hcb⟩:=hc.resolve_left (by omega);clear hcb
  by_cases hlast:i=l.length
  ·
   have HPt:=Lh (pieces_yes1 (R:=R) hi1 (.inl hlast));have g1:((i:Int) == (l.length:Int))=true:=(by rw [beq_iff_eq];omega);clear hlast;have HSlr:Hid (GRow encI 1 wr (.slice (some ⟨b,off+at',none⟩) (i - at') (cap - at')) ((l.take i).drop at')):=Lh (row_part (HV.o.over HBw.o) hai hlt);have HPc:Hid (∀ W,Be wr W→Calls Tryz.prog 95 #[.agg #[.int .i64 n,.slice ra R.length rc],.slice (some ⟨b,off+at',none⟩) (i - at') (cap - at')] W (RPcRes W (pieceM R (blkM R f) ((l.take i).drop at')))):=Lh fun W hW=>rpiece_any f n _ R _ _ W ((HH.o.over HBw.o).over hW) (HSlr.o.over hW) (by rw [List.length_drop,List.length_take];omega) (by rw [List.length_drop,List.length_take];omega) (by rw [List.length_drop,List.length_take];omega) HIH.o;have HGq:=Lh (HG.o.over HBr.o);have HXq:=Lh (HX.o.over (Below.refl _ _));obtain⟨q0,q1,sq⟩:=HGq.o.c2;have sB:b<wr.heap.size:=(by have:=(HBr.o).size;have:=HB.o.size;omega);go_upto_region 7 with fail;refine wlo 8 fun hcur=>?_;(repeat(first|refine lxq ?_|(refine lxl rfl ?_;go_wp2_with (first|(go_at_call 95;(with_reducible refine(HPc.o _ hcur).mono ?_);rintro e w3 ⟨k3,n3,s3,ys3,rfl,hb3,hi3,hbw3⟩;(obtain⟨p3,c3,e3,_,_,_⟩:=(bin_mk.1 hi3).1.at encBl_len);subst e3;have HB3:=Lh hb3;have HI3:=Lh hi3;replace hcur:=bvo hcur hbw3;clear hb3 hi3 hbw3));refine⟨iov (by first|exact hcur|exact hcur.alloc hcur.size _),?_⟩)));refine lxe ?_;have HX3:=Lh (HXq.o.over hcur);have HO3:=Lh HX3.o.own;have HBw3:=Lh (bvo (HBr.o) hcur);have hB3:=HBw3.o.size;have hcs:=hcur.size;have hN:=HXl.o;clear hcur q0 q1 sq;go_wp2_with (at_builtin;(first|refine wpList_append_newK slBlkR rfl _ _ rfl w0.heap.size #[.int .i64 k3,.int .i64 n3,.slice p3 ys3.length c3] 175 (drf _) 1 _ _ _ HO3.o rfl rfl rfl rfl hN (by decide) hB3 ?_|refine wpList_append_newK slBlkR rfl _ _ rfl w0.heap.size #[.int .i64 k3,.int .i64 n3,.slice p3 ys3.length c3] 175 (ddw _) 1 _ _ _ HO3.o rfl rfl rfl rfl hN (by decide) hB3 ?_);intro v6 w6 ho6 hg6 hv6);go_roundw
   case rel=>exact⟨i+1,i,xs++[.mk k3 n3 (.slice p3 ys3.length c3) ys3],by omega,by omega,by go_num,rfl,Lh (of_snocR (lo:=wr.heap.size) HX3.o (BIn.weak HI3.o fun b hb=>⟨by first|exact hb.1|(have:=hb.1;simpa using this),hb.2⟩) (Nat.le_refl _) (HBr.o).size (fun b hb=>gown_size HXq.o.own hb) ho6 hg6 hv6),Lh (by rw [bareL_snoc,HBa.o,HB3.o,Nat.add_sub_cancel,HPt.o,List.map_append,HAt.o];rfl),by rw [Nat.add_sub_cancel,HPt.o],bgr HBw3.o hB3 HO3.o hg6⟩
   simp [intOf];omega
  have g1:((i:Int) == (l.length:Int))=false:=by rw [beq_eq_false_iff_ne];omega
  have HGr:=Lh (HG.o.over HBr.o);obtain⟨g2,g3,sg⟩:=HGr.o.c2;have HCt:=Lh (rcut22_any n _ R _ l i wr (HH.o.over HBw.o) (HV.o.over HBw.o) (by omega));unfold rrV at HCt;cases hcu:cutB R l i with
  | true =>
   rw [hcu] at HCt;have HPt:=Lh (pieces_yes1 (R:=R) hi1 (.inr hcu));clear hcu;go_wp2_with fail
   with_reducible refine(HCt.o).mono ?_
   rintro e w2 ⟨rfl,hb2⟩;have HBr2:=Lh (bvo HBr.o hb2);have HBw2:=Lh (bvo HBw.o hb2);have HBq2:=Lh hb2;clear hb2 g2 g3 sg;have HSlr:Hid (GRow encI 1 w2 (.slice (some ⟨b,off+at',none⟩) (i - at') (cap - at')) ((l.take i).drop at')):=Lh (row_part (HV.o.over HBw2.o) hai hlt);have HPc:Hid (∀ W,Be w2 W→Calls Tryz.prog 95 #[.agg #[.int .i64 n,.slice ra R.length rc],.slice (some ⟨b,off+at',none⟩) (i - at') (cap - at')] W (RPcRes W (pieceM R (blkM R f) ((l.take i).drop at')))):=Lh fun W hW=>rpiece_any f n _ R _ _ W ((HH.o.over HBw2.o).over hW) (HSlr.o.over hW) (by rw [List.length_drop,List.length_take];omega) (by rw [List.length_drop,List.length_take];omega) (by rw [List.length_drop,List.length_take];omega) HIH.o;have HGq:=Lh (HG.o.over HBr2.o);have HXq:=Lh (HX.o.over HBq2.o);obtain⟨q0,q1,sq⟩:=HGq.o.c2;have sB:b<w2.heap.size:=(by have:=(HBr2.o).size;have:=HB.o.size;omega);go_upto_region 7 with fail;refine wlo 8 fun hcur=>?_;(repeat(first|refine lxq ?_|(refine lxl rfl ?_;go_wp2_with (first|(go_at_call 95;(with_reducible refine(HPc.o _ hcur).mono ?_);rintro e w3 ⟨k3,n3,s3,ys3,rfl,hb3,hi3,hbw3⟩;(obtain⟨p3,c3,e3,_,_,_⟩:=(bin_mk.1 hi3).1.at encBl_len);subst e3;have HB3:=Lh hb3;have HI3:=Lh hi3;replace hcur:=bvo hcur hbw3;clear hb3 hi3 hbw3));refine⟨iov (by first|exact hcur|exact hcur.alloc hcur.size _),?_⟩)));refine lxe ?_;have HX3:=Lh (HXq.o.over hcur);have HO3:=Lh HX3.o.own;have HBw3:=Lh (bvo (HBr2.o) hcur);have hB3:=HBw3.o.size;have hcs:=hcur.size;have hN:=HXl.o;clear hcur q0 q1 sq;go_wp2_with (at_builtin;(first|refine wpList_append_newK slBlkR rfl _ _ rfl w0.heap.size #[.int .i64 k3,.int .i64 n3,.slice p3 ys3.length c3] 175 (drf _) 1 _ _ _ HO3.o rfl rfl rfl rfl hN (by decide) hB3 ?_|refine wpList_append_newK slBlkR rfl _ _ rfl w0.heap.size #[.int .i64 k3,.int .i64 n3,.slice p3 ys3.length c3] 175 (ddw _) 1 _ _ _ HO3.o rfl rfl rfl rfl hN (by decide) hB3 ?_);intro v6 w6 ho6 hg6 hv6);go_roundw
   case rel=>exact⟨i+1,i,xs++[.mk k3 n3 (.slice p3 ys3.length c3) ys3],by omega,by omega,by go_num,rfl,Lh (of_snocR (lo:=w2.heap.size) HX3.o (BIn.weak HI3.o fun b hb=>⟨by first|exact hb.1|(have:=hb.1;simpa using this),hb.2⟩) (Nat.le_refl _) (HBr2.o).size (fun b hb=>gown_size HXq.o.own hb) ho6 hg6 hv6),Lh (by rw [bareL_snoc,HBa.o,HB3.o,Nat.add_sub_cancel,HPt.o,List.map_append,HAt.o];rfl),by rw [Nat.add_sub_cancel,HPt.o],bgr HBw3.o hB3 HO3.o hg6⟩
   simp [intOf];omega
  | false =>
   rw [hcu] at HCt;have HPt:=Lh (pieces_no1 (R:=R) hi1 (fun q=>q.elim hlast (fun q=>by rw [hcu] at q;cases q)));clear hcu;go_wp2_with fail
   with_reducible refine(HCt.o).mono ?_
   rintro e w2 ⟨rfl,hb2⟩;have HBr2:=Lh (bvo HBr.o hb2);have HX2:=Lh (HX.o.over hb2);clear hb2 g2 g3 sg;go_wp2;go_roundw
   case rel=>exact⟨i+1,at',xs,by omega,by omega,by go_num,rfl,HX2,Lh (by rw [Nat.add_sub_cancel,HPt.o];exact HBa.o),by rw [Nat.add_sub_cancel,HPt.o];exact HAt.o.symm,HBr2.o⟩
   simp [intOf];omega
end
section
attribute [local irreducible] oddL oddB bareL bareB
theorem rodd_any(A:Nat→Prop):∀(N:Nat) (v:Value) (xs:List BlL) (w:World),SizeOf.sizeOf xs<N→GRow encBl 3 w v xs→BIns A w xs→oddL (bareL xs)≤1000000 →
  Calls Tryz.prog 111 #[v] w fun e w'=>e=.returned (.int .i64 (oddL (bareL xs):Int))∧Be w w'
 | 0,v,xs,w,hs,_,_,_=>absurd hs (Nat.not_lt_zero _)
 | N+1,v,xs,w,hs,hv,hi,ho=>by
  have HIH:=Lh (rodd_any A N);obtain⟨a,cap,rfl,h1,h2,hc⟩:=hv.at encBl_len;unfold maxLen at h2;have HC:=Lh hc;have HI:=Lh hi;have HS:=Lh hs;have HO:=Lh ho;clear hv hi hc hs ho;go_enter Tryz.func111,Tryz.ntmps111;go_wp2;go_loopw [3,4] (fun v3 v4 wr=>OddRel w xs v3 v4 wr) (fun _ v4 _=>xs.length - (intOf v4).toNat)
  case atStart=>exact⟨0,by omega,rfl,by rw [List.take_zero,bareL_nil,oddL_nil];rfl,Below.refl _ _⟩
  obtain⟨j,hj,rfl,rfl,hbl⟩:=hrel;rename World=>wr;have HB:=Lh hbl
  by_cases hlt:j<xs.length
  rotate_left
  · obtain rfl:j=xs.length:=(by omega);rw [List.take_length];go_wp2;go_ret;exact⟨rfl,HB.o⟩
  obtain⟨b,off,rfl,sb,hcb⟩:=HC.o.resolve_left (by omega);obtain⟨⟨kd,nm,sv,sub⟩,hx⟩:=gol hlt;have hr:=hcb j _ hx wr hbl;have sx:=hr.1;have x0:wr.cell? ⟨b,off+j*3,none⟩=some (.int .i64 kd):=hr.2 0 _ rfl;have x1:wr.cell? ⟨b,off+j*3+1,none⟩=some (.int .i64 nm):=hr.2 1 _ rfl;have x2:wr.cell? ⟨b,off+j*3+2,none⟩=some sv:=hr.2 2 _ rfl;have hm:=List.mem_of_getElem? hx;have hin:=bin_mk.1 (bins_mem HI.o hm);obtain⟨a',cap',esv,_,_,_⟩:=hin.1.at encBl_len;subst esv;have HSub:=Lh hin.1;have HSin:=Lh hin.2.2.2;have HSz:Hid (SizeOf.sizeOf sub<N):=Lh (by have:=size_sub hm;have:=HS.o;omega);have hsu:=odd_succ hx;have hle:=odd_le (xs:=xs) (j+1);have hot:=HO.o;obtain⟨oj,hoj⟩:∃ oj,oddL (bareL (xs.take j))=oj:=⟨_,rfl⟩;rw [hoj] at hsu;rw [hoj];rw [show bareB (.mk kd nm (.slice a' sub.length cap') sub)=.mk kd nm (bareL sub) from by unfold bareB;rfl] at hsu;clear hcb hx hr hin hm hoj
  by_cases k1:kd=1
  ·
   subst k1;rw [odd_1] at hsu;have HSu:Hid (oddL (bareL (xs.take (j+1)))=oj):=Lh (by omega);clear hsu hle hot;go_wp2;go_roundw
   case rel=>exact⟨j+1,hlt,by go_num,by rw [HSu.o],HB.o⟩
   simp [intOf];omega
  obtain⟨ob,hob⟩:∃ ob,oddL (bareL sub)=ob:=⟨_,rfl⟩;have HOb:=Lh hob
  by_cases k2:kd=2
  ·
   subst k2;rw [odd_23 (.inl rfl),hob] at hsu;have HSu:Hid (oddL (bareL (xs.take (j+1)))=oj+1+ob):=Lh (by omega);have hb1:oj+1+ob≤1000000:=(by omega);clear hsu hle hot hob k1;go_wp2_with fail;refine(HIH.o _ sub _ HSz.o (HSub.o.over HB.o) (HSin.o.over HB.o) (by rw [HOb.o];omega)).mono ?_;rw [HOb.o];rintro e w2 ⟨rfl,hb2⟩;have HB2:=Lh (bvo HB.o hb2);clear hb2;go_wp2;go_roundw
   case rel=>exact⟨j+1,hlt,by go_num,by rw [HSu.o];go_num,HB2.o⟩
   simp [intOf];omega
  by_cases k3:kd=3
  ·
   subst k3;rw [odd_23 (.inr rfl),hob] at hsu;have HSu:Hid (oddL (bareL (xs.take (j+1)))=oj+1+ob):=Lh (by omega);have hb1:oj+1+ob≤1000000:=(by omega);clear hsu hle hot hob k1 k2;go_wp2_with fail;refine(HIH.o _ sub _ HSz.o (HSub.o.over HB.o) (HSin.o.over HB.o) (by rw [HOb.o];omega)).mono ?_;rw [HOb.o];rintro e w2 ⟨rfl,hb2⟩;have HB2:=Lh (bvo HB.o hb2);clear hb2;go_wp2;go_roundw
   case rel=>exact⟨j+1,hlt,by go_num,by rw [HSu.o];go_num,HB2.o⟩
   simp [intOf];omega
  rw [odd_0 k1 (by omega),hob] at hsu;have HSu:Hid (oddL (bareL (xs.take (j+1)))=oj+ob):=Lh (by omega);have hb1:oj+ob≤1000000:=by omega
  have g1:(kd == 1)=false:=by rw [beq_eq_false_iff_ne];exact k1
  have g1':(kd != 1)=true:=by rw [bne_iff_ne];exact k1
  have g2:(kd == 2)=false:=by rw [beq_eq_false_iff_ne];exact k2
  have g3:(kd == 3)=false:=by rw [beq_eq_false_iff_ne];exact k3
  clear hsu hle hot hob;go_wp2_with fail;refine(HIH.o _ sub _ HSz.o (HSub.o.over HB.o) (HSin.o.over HB.o) (by rw [HOb.o];omega)).mono ?_;rw [HOb.o];rintro e w2 ⟨rfl,hb2⟩;have HB2:=Lh (bvo HB.o hb2);clear hb2;go_wp2;go_roundw
  case rel=>exact⟨j+1,hlt,by go_num,by rw [HSu.o];go_num,HB2.o⟩
  simp [intOf];omega
end
section
theorem blk_one{w:World}{b off cap j:Nat}{xs:List BlL}{x:BlL}(h:GRow encBl 3 w (.slice (some ⟨b,off,none⟩) xs.length cap) xs)(hx:xs[j]? = some x):GRow encBl 3 w (.slice (some ⟨b,off+j*3,none⟩) 1 (cap - j)) [x]:=by
 obtain⟨a2,c2,e,z1,z2,hc⟩:=h.at encBl_len;obtain⟨rfl,_,rfl⟩:=Value.slice.inj e;have hj:=(List.getElem?_eq_some_iff.1 hx).1;obtain⟨b3,off3,e3,hlt,hcb⟩:=hc.resolve_left (by omega);obtain⟨rfl,rfl,_⟩:=Addr.mk.inj (Option.some.inj e3);refine⟨by simp [encBl_len],_,_,rfl,by show 1≤_;omega,by omega,?_,fun _=>⟨b,off+j*3,rfl,hlt,fun q u hu => ?_⟩⟩
 · intro h0;cases h0
 rw [List.flatMap_cons,List.flatMap_nil,List.append_nil] at hu;exact(hcb j x hx w (Below.refl _ _)).2 q u hu
structure SeAt (wr w0:World) (p:Option Addr) (c:Nat) (out:List ByteArray):Prop where
 own:GOwn encS1 1 9 wr w0.heap.size (.slice p out.length c) out
 world:Be w0 wr
theorem SeAt.over{wr w' w0:World}{p:Option Addr}{c:Nat}{out:List ByteArray}(h:SeAt wr w0 p c out)(hb:Be wr w'):SeAt w' w0 p c out:=⟨h.own.over hb,bvo h.world hb⟩
theorem SeAt.push{wr w6 w0:World}{p p6:Option Addr}{c c6:Nat}{out o1:List ByteArray}(h:SeAt wr w0 p c out)(ho:GOwn encS1 1 9 w6 w0.heap.size (.slice p6 o1.length c6) o1)(hg:wr.grownBy w6 (Value.slice p out.length c).ownBlock):SeAt w6 w0 p6 c6 o1:=
 ⟨ho,bgr h.world h.world.size h.own hg⟩
def RbRel(w0:World)(l:List VertM)(xs:List BlL)(v5 v6:Value)(wr:World):Prop:=∃(j:Nat) (p:Option Addr) (c:Nat),j≤xs.length∧v6=.int .i64 j∧∃ oj:List ByteArray,oj=seenAll l (bareL (xs.take j))∧v5=.slice p oj.length c∧Hid (SeAt wr w0 p c oj)
def RjRel(w0:World)(gk:Nat)(l:List VertM)(m:ByteArray)(out:List ByteArray)(kv nv sv:Value)(sub:List BlL)(v5 v8:Value)(wr:World):Prop:=∃(j:Nat) (p:Option Addr) (c:Nat),j≤sub.length∧v8=.int .i64 j∧∃ oj:List ByteArray,oj=out++[markA]++seenJoin l m true (bareL (sub.take j))∧v5=.slice p oj.length c∧Hid (SeAt wr w0 p c oj)∧Hid (ArrT wr gk 175 [kv,nv,sv])
attribute [local irreducible] seenJoin seenAll seenOne bareL bareB
def RbC(lv sv0:Value)(l:List VertM)(R:List (Nat × Nat))(N:Nat):Prop:=∀(v:Value) (xs:List BlL) (w:World),SizeOf.sizeOf xs<N→GRow encBl 3 w v xs→BIns (fun _=>True) w xs→RSh w lv sv0 l R→(seenAll l (bareL xs)).length≤1000000 →
  Calls Tryz.prog 110 #[rsV lv l.length sv0,v] w (OwnRes encS1 1 9 w (seenAll l (bareL xs)))
theorem rblocks_step(lv sv0:Value)(l:List VertM)(R:List (Nat × Nat))(N:Nat)(hih:RbC lv sv0 l R N):RbC lv sv0 l R (N+1):=by
  intro v xs w hs hv hi hS hlen;unfold RbC at hih;have HIH:=Lh hih;clear hih;obtain⟨lp,lc,sp,sc,rfl,rfl,hlc⟩:=hS.form;have hlr:=hS.rel.room;unfold maxLen at hlc;have HSh:=Lh (hS.over (bnew (w:=w) (.cells #[.slice lp l.length lc,.int .i64 l.length,.slice sp R.length sc] 105)));have HG:=Lh (arrT_new w [.slice lp l.length lc,.int .i64 l.length,.slice sp R.length sc] 105);have HB:=Lh (bnew (w:=w) (.cells #[.slice lp l.length lc,.int .i64 l.length,.slice sp R.length sc] 105));have HV:=Lh (hv.over (bnew (w:=w) (.cells #[.slice lp l.length lc,.int .i64 l.length,.slice sp R.length sc] 105)));have HI:=Lh (hi.over (bnew (w:=w) (.cells #[.slice lp l.length lc,.int .i64 l.length,.slice sp R.length sc] 105)));obtain⟨a,cap,rfl,h1,h2,_⟩:=hv.at encBl_len;unfold maxLen at h2;have HS:=Lh hs;have HLn:=Lh hlen;clear hv hi hs hS hlen;unfold rsV;go_enter Tryz.func110,Tryz.ntmps110;go_upto_region 1 with fail;generalize w.alloc (.cells #[.slice lp l.length lc,.int .i64 l.length,.slice sp R.length sc] 105)=w0 at *;generalize hgS:w.heap.size=gS at *;have HGS:=Lh hgS;clear hgS;have HC:Hid _:=Lh (HV.o.at encBl_len);have H0:Hid (SeAt w0 w0 none 0 []):=Lh ⟨gown_nil _ _,Below.refl _ _⟩;go_wp2;go_loopw [5,6] (fun v5 v6 wr=>RbRel w0 l xs v5 v6 wr) (fun _ v6 _=>xs.length - (intOf v6).toNat)
  case atStart=>exact⟨0,none,0,Nat.zero_le _,rfl,[],by rw [List.take_zero,bareL_nil,seenAll_nil],rfl,H0⟩
  obtain⟨jo,pj,cj,hj,rfl,oj,hoj,rfl,HJ⟩:=hrel;rename World=>wr;have HOj:=Lh hoj;have hcj:=(HJ.o.own.row.at encS1_len)
  by_cases hlt:jo<xs.length
  rotate_left
  · obtain rfl:jo=xs.length:=(by omega);have HE:Hid (seenAll l (bareL xs)=oj):=Lh (by rw [hoj,List.take_length]);clear hoj;go_wp2;go_ret;have hsB:=HB.o.size;have hsG:gS≤w0.heap.size:=(by rw [← HGS.o];exact HB.o.size);have HBE:=bvo HB.o HJ.o.world;exact⟨_,rfl,by rw [HE.o];exact HJ.o.own.base hsB,HBE⟩
  obtain⟨a2,cap2,e2,_,_,hc⟩:=HC.o;obtain⟨rfl,_,rfl⟩:=Value.slice.inj e2;obtain⟨b,off,rfl,sb,hcb⟩:=hc.resolve_left (by omega);obtain⟨⟨kd,nm,sv,sub⟩,hx⟩:=gol hlt;have hr:=hcb jo _ hx wr HJ.o.world;have sx:=hr.1;have hm:=List.mem_of_getElem? hx;have hin:=bin_mk.1 (bins_mem HI.o hm);obtain⟨a',cap',esv,u1,u2,hcs0⟩:=hin.1.at encBl_len;subst esv;unfold maxLen at u2;have HCs:=Lh hcs0;have x0:wr.cell? ⟨b,off+jo*3,none⟩=some (.int .i64 kd):=hr.2 0 _ rfl;have x1:wr.cell? ⟨b,off+jo*3+1,none⟩=some (.int .i64 nm):=hr.2 1 _ rfl;have x2:wr.cell? ⟨b,off+jo*3+2,none⟩=some (.slice a' sub.length cap'):=hr.2 2 _ rfl;have HSub:=Lh hin.1;have HSin:=Lh hin.2.2.2;have HSz:Hid (SizeOf.sizeOf sub<N):=Lh (by have:=size_sub hm;have:=HS.o;omega);have HSu:=Lh (seen_succ l hx);have hlj:oj.length+(seenOne l (bareB (.mk kd nm (.slice a' sub.length cap') sub))).length≤1000000:=by have h9:=seen_le l (xs:=xs) (jo+1);rw [HSu.o,List.length_append,← hoj] at h9;have:=HLn.o;omega
  clear hcb hx hr hin hm hoj hcs0 hc hcj
  by_cases k2:kd=2
  ·
   subst k2;go_upto_region 6 with fail;have HK:=Lh (arrT_new wr [.int .i64 2,.int .i64 nm,.slice a' sub.length cap'] 175);have HNw:=Lh (bnew (w:=wr) (.cells #[.int .i64 2,.int .i64 nm,.slice a' sub.length cap'] 175));have HJ1:=Lh (HJ.o.over HNw.o);obtain⟨gk,hgk⟩:∃ gk,gk=wr.heap.size:=⟨_,rfl⟩;rw [← hgk] at HK ⊢;generalize wr.alloc (.cells #[.int .i64 2,.int .i64 nm,.slice a' sub.length cap'] 175)=w3 at *;clear hgk x0 x1 x2 sx;have HKa:=Lh HK.o.arr;have HGw:=Lh ((HG.o.over HJ1.o.world).arr);obtain⟨y0,y1,y2,sy⟩:=HKa.o.c3;obtain⟨g0,g1,g2,sg⟩:=HGw.o.c3;have HMk:Hid (seenOne l (bareB (.mk 2 nm (.slice a' sub.length cap') sub))=markA :: (seenJoin l markS true (bareL sub)++[markE])):=Lh (by rw [bareB_mk,seenOne_mk];simp);have hlen2:oj.length+(seenJoin l markS true (bareL sub)).length+2≤1000000:=(by have h9:=hlj;rw [HMk.o] at h9;simp only [List.length_cons,List.length_append,List.length_nil] at h9;omega);obtain⟨jn,hjn⟩:∃ jn,jn=(seenJoin l markS true (bareL sub)).length:=⟨_,rfl⟩;rw [← hjn] at hlen2;have HJn:=Lh hjn;clear hjn hlj;have HOwa:=Lh HJ1.o.own;have hBa:=HJ1.o.world.size;have hNa:oj.length+1≤1099511627776:=(by omega);obtain⟨oa,hoa⟩:∃ oa,oa=oj++[markA]:=⟨_,rfl⟩;have HOa:=Lh hoa;have hla:oa.length=oj.length+1:=(by rw [hoa];simp);have hla':oa.length≤oj.length+1:=Nat.le_of_eq hla;clear hoa hla;go_upto_region 12 with((at_builtin;refine apD slStrE rfl _ _ rfl w0.heap.size _ _ (drf _) 1 _ _ _ HOwa.o rfl rfl rfl rfl hNa (by decide) hBa ?_;intro va wa hoa hga);(obtain⟨pa,ca,ea,hOa⟩:=sown_moreS (more:=[markA]) HOa.o hoa);subst ea;have HPa:=Lh (HJ1.o.push hOa hga);have HKa:=Lh (HK.o.grown HJ1.o.own (by decide) hga);clear hoa hga hOa)
   clear hBa;go_wp2;go_loopw [5,8] (fun v5 v8 wq=>RjRel w0 gk l markS oj (.int .i64 2) (.int .i64 nm) (.slice a' sub.length cap') sub v5 v8 wq) (fun _ v8 _=>sub.length - (intOf v8).toNat)
   case atStart=>exact⟨0,pa,ca,Nat.zero_le _,rfl,oa,by rw [List.take_zero,bareL_nil,seenJoin_nil,List.append_nil];exact HOa.o,rfl,HPa,HKa⟩
   obtain⟨j,pq,cq,hj,rfl,oq,hoq,rfl,HQ,HKq⟩:=hrel;rename World=>wq;have HOq:=Lh hoq;clear hoq;have hs9:=HOq.o;have HKs:=Lh HKq.o.arr;obtain⟨y0,y1,y2,sy⟩:=HKs.o.c3
   by_cases hlt2:j<sub.length
   rotate_left
   ·
    obtain rfl:j=sub.length:=(by omega);have hol:oq.length=oj.length+1+jn:=(by rw [HJn.o,hs9,List.take_length];simp;omega);have hol2:oq.length≤oj.length+1+jn:=Nat.le_of_eq hol;clear hol hs9;have HOwz:=Lh HQ.o.own;have hBz:=HQ.o.world.size;have hNz:oq.length+1≤1099511627776:=(by omega);obtain⟨oz,hoz⟩:∃ oz,oz=oq++[markE]:=⟨_,rfl⟩;have HOz:=Lh hoz;have hlz:oz.length=oq.length+1:=(by rw [hoz];simp);have hlz':oz.length≤oq.length+1:=Nat.le_of_eq hlz;clear hoz hlz;go_wp2_with ((at_builtin;refine apD slStrE rfl _ _ rfl w0.heap.size _ _ (drf _) 1 _ _ _ HOwz.o rfl rfl rfl rfl hNz (by decide) hBz ?_;intro vz wz hoz hgz);(obtain⟨pz,cz,ez,hOz⟩:=sown_moreS (more:=[markE]) HOz.o hoz);subst ez;have HPz:=Lh (HQ.o.push hOz hgz);have HKz:=Lh (HKq.o.grown HQ.o.own (by decide) hgz);clear hoz hgz hOz);go_roundw
    case rel=>exact⟨jo+1,pz,cz,hlt,by go_num,oz,by rw [HOz.o,HOq.o,HSu.o,HMk.o,← HOj.o,List.take_length];simp,rfl,HPz⟩
    simp [intOf];omega
   obtain⟨b',off',rfl,sb',hcs⟩:=HCs.o.resolve_left (by omega);obtain⟨⟨kx,nx,sx,ux⟩,hx⟩:=gol hlt2;have hm:=List.mem_of_getElem? hx;have HXi:=Lh (bins_mem HSin.o hm);have HX1:=Lh (blk_one HSub.o hx);have HX:=Lh hx;have HSz1:Hid (SizeOf.sizeOf [BlL.mk kx nx sx ux]<N):=Lh (by have:=one_size hm;have:=HSz.o;omega);have HSu2:=Lh (join_succ l markS hx);obtain⟨sn,hsn⟩:∃ sn,seenOne l (bareB (.mk kx nx sx ux))=sn:=⟨_,rfl⟩;have hjl:=join_le l markS hlt2 hx;rw [hsn,← HJn.o] at hjl;have hol:oq.length=oj.length+1+(seenJoin l markS true (bareL (sub.take j))).length:=(by rw [hs9];simp;omega);have hob:oq.length+sn.length+(if j=0 then 0 else 1)≤1000000:=(by omega);have HSn:=Lh hsn;have HCl:Hid (∀ V,Be w0 V→Calls Tryz.prog 110 #[.agg #[.slice lp l.length lc,.int .i64 l.length,.slice sp R.length sc],.slice (some ⟨b',off'+j*3,none⟩) (j+1 - j) (cap' - j)] V (OwnRes encS1 1 9 V sn)):=Lh fun V hV=>by have h9:=HIH.o _ [.mk kx nx sx ux] V HSz1.o (HX1.o.over hV) (bins_one (HXi.o.over hV)) (HSh.o.over hV) (by rw [bareL_map,List.map_cons,List.map_nil,seenAll_one,HSn.o];omega);rw [bareL_map,List.map_cons,List.map_nil,seenAll_one,HSn.o] at h9;rw [show j+1 - j=1 by omega];exact h9
   clear hcs hx hm hsn hjl hol hs9
   by_cases hj0:j=0
   ·
    have g0:decide ((j:Int) > 0)=false:=decide_eq_false (by omega);have g1:¬ 0<j:=(by omega);have hob2:oq.length+sn.length≤1000000:=(by rw [if_pos hj0] at hob;omega);clear hob y0 y1 y2 sy;have HKr:=Lh HKq.o.arr;have HGr:=Lh ((HG.o.over HQ.o.world).arr);have HCw:Hid (∀ V,Be wq V→Calls Tryz.prog 110 #[.agg #[.slice lp l.length lc,.int .i64 l.length,.slice sp R.length sc],.slice (some ⟨b',off',none⟩) 1 cap'] V (OwnRes encS1 1 9 V sn)):=Lh fun V hV=>by have h9:=HCl.o V (bvo HQ.o.world hV);rw [hj0] at h9;simpa using h9
    obtain⟨k0,k1,k2,sk⟩:=HKr.o.c3;obtain⟨r0,r1,r2,sr⟩:=HGr.o.c3;go_upto_region 19 with fail;refine wlo 9 fun hcur=>?_;(repeat(first|refine lxq ?_|(refine lxl rfl ?_;go_wp2_with (first|(go_at_call 110;(with_reducible refine(HCw.o _ hcur).mono ?_);rintro e w5 ⟨v5,rfl,ho5,hb5⟩;have HR8:=Lh ho5.row;replace hcur:=bvo hcur hb5;clear ho5 hb5));refine⟨iov (by first|exact hcur|exact hcur.alloc hcur.size _),?_⟩)));refine lxe ?_;have H5:=Lh (HQ.o.over hcur);have HK5:=Lh (HKq.o.over hcur);clear hcur k0 k1 k2 sk r0 r1 r2 sr;obtain⟨o8,ho8⟩:∃ o8,o8=oq++sn:=⟨_,rfl⟩;have HO8:=Lh ho8;have HOw8:=Lh H5.o.own;have hB8:=H5.o.world.size;have hN8:oq.length+sn.length≤1099511627776:=(by omega);clear ho8;go_wp2_with (at_builtin;refine wpList_append_old slStrE rfl _ _ rfl w0.heap.size _ _ _ HOw8.o rfl _ _ _ HR8.o rfl (onesS _) hN8 (by decide) hB8 ?_;intro v8 w8 ho8 hg8;(obtain⟨p8,c8,e8,hO8⟩:=sown_moreS (more:=sn) HO8.o ho8);subst e8;have HP8:=Lh (H5.o.push hO8 hg8);have HK8:=Lh (HK5.o.grown H5.o.own (by decide) hg8);clear ho8 hg8 hO8);go_roundw
    case rel=>exact⟨j+1,p8,c8,hlt2,by go_num,o8,by rw [HO8.o,HOq.o,HSu2.o,HSn.o,if_pos hj0,List.nil_append,List.append_assoc],rfl,HP8,HK8⟩
    simp [intOf];omega
   have g0:decide ((j:Int) > 0)=true:=decide_eq_true (by omega);have g1:0<j:=(by omega);have gcj:¬ cap'=j:=(by omega);have hob2:oq.length+sn.length+1≤1000000:=(by rw [if_neg hj0] at hob;omega);clear hob;have HOwb:=Lh HQ.o.own;have hBb:=HQ.o.world.size;have hNb:oq.length+1≤1099511627776:=(by omega);obtain⟨ob,hob⟩:∃ ob,ob=oq++[markS]:=⟨_,rfl⟩;have HOb:=Lh hob;have hlb:ob.length=oq.length+1:=(by rw [hob];simp);have hlb':ob.length≤oq.length+1:=Nat.le_of_eq hlb;clear hob hlb;have hob3:ob.length+sn.length≤1000000:=(by omega);go_upto_region 19 with((at_builtin;refine apD slStrE rfl _ _ rfl w0.heap.size _ _ (drf _) 1 _ _ _ HOwb.o rfl rfl rfl rfl hNb (by decide) hBb ?_;intro vb wb hob hgb);(obtain⟨pb,cb,eb,hOb⟩:=sown_moreS (more:=[markS]) HOb.o hob);subst eb;have HPb:=Lh (HQ.o.push hOb hgb);have HKb:=Lh (HKq.o.grown HQ.o.own (by decide) hgb);clear hob hgb hOb;have HKb9:=Lh HKb.o.arr;have q0:=HKb9.o.k 0 rfl;have sq:=HKb9.o.lt)
   clear hBb y0 y1 y2 sy q0 sq;have HKr:=Lh HKb.o.arr;have HGr:=Lh ((HG.o.over HPb.o.world).arr);have HCw:Hid (∀ V,Be wb V→Calls Tryz.prog 110 #[.agg #[.slice lp l.length lc,.int .i64 l.length,.slice sp R.length sc],.slice (some ⟨b',off'+j*3,none⟩) 1 (cap' - j)] V (OwnRes encS1 1 9 V sn)):=Lh fun V hV=>by have h9:=HCl.o V (bvo HPb.o.world hV);rw [show j+1 - j=1 by omega] at h9;exact h9
   obtain⟨k0,k1,k2,sk⟩:=HKr.o.c3;obtain⟨r0,r1,r2,sr⟩:=HGr.o.c3;refine wlo 9 fun hcur=>?_;(repeat(first|refine lxq ?_|(refine lxl rfl ?_;go_wp2_with (first|(go_at_call 110;(with_reducible refine(HCw.o _ hcur).mono ?_);rintro e w5 ⟨v5,rfl,ho5,hb5⟩;have HR8:=Lh ho5.row;replace hcur:=bvo hcur hb5;clear ho5 hb5));refine⟨iov (by first|exact hcur|exact hcur.alloc hcur.size _),?_⟩)));refine lxe ?_;have H5:=Lh (HPb.o.over hcur);have HK5:=Lh (HKb.o.over hcur);clear hcur k0 k1 k2 sk r0 r1 r2 sr;obtain⟨o8,ho8⟩:∃ o8,o8=ob++sn:=⟨_,rfl⟩;have HO8:=Lh ho8;have HOw8:=Lh H5.o.own;have hB8:=H5.o.world.size;have hN8:ob.length+sn.length≤1099511627776:=(by omega);clear ho8;go_wp2_with (at_builtin;refine wpList_append_old slStrE rfl _ _ rfl w0.heap.size _ _ _ HOw8.o rfl _ _ _ HR8.o rfl (onesS _) hN8 (by decide) hB8 ?_;intro v8 w8 ho8 hg8;(obtain⟨p8,c8,e8,hO8⟩:=sown_moreS (more:=sn) HO8.o ho8);subst e8;have HP8:=Lh (H5.o.push hO8 hg8);have HK8:=Lh (HK5.o.grown H5.o.own (by decide) hg8);clear ho8 hg8 hO8);go_roundw
   case rel=>exact⟨j+1,p8,c8,hlt2,by go_num,o8,by rw [HO8.o,HOb.o,HOq.o,HSu2.o,HSn.o,if_neg hj0];simp only [List.append_assoc],rfl,HP8,HK8⟩
   simp [intOf];omega
  by_cases k3:kd=3
  rotate_left
  ·
   by_cases k4:kd=4
   ·
    subst k4;go_upto_region 6 with fail;have HK:=Lh (arrT_new wr [.int .i64 4,.int .i64 nm,.slice a' sub.length cap'] 175);have HNw:=Lh (bnew (w:=wr) (.cells #[.int .i64 4,.int .i64 nm,.slice a' sub.length cap'] 175));have HJ1:=Lh (HJ.o.over HNw.o);obtain⟨gk,hgk⟩:∃ gk,gk=wr.heap.size:=⟨_,rfl⟩;rw [← hgk] at HK ⊢;generalize wr.alloc (.cells #[.int .i64 4,.int .i64 nm,.slice a' sub.length cap'] 175)=w3 at *;clear hgk x0 x1 x2 sx;have HKa:=Lh HK.o.arr;have HGw:=Lh ((HG.o.over HJ1.o.world).arr);obtain⟨y0,y1,y2,sy⟩:=HKa.o.c3;obtain⟨g0,g1,g2,sg⟩:=HGw.o.c3;have HM4:Hid (seenOne l (bareB (.mk 4 nm (.slice a' sub.length cap') sub))=seenAll l (bareL sub)):=Lh (by rw [bareB_mk,seenOne_mk];simp);rw [HM4.o] at hlj;have HCl:=Lh (HIH.o _ sub w3 HSz.o (HSub.o.over HJ1.o.world) (HSin.o.over HJ1.o.world) (HSh.o.over HJ1.o.world) (by omega));unfold rsV at HCl;obtain⟨sn,hsn⟩:∃ sn,seenAll l (bareL sub)=sn:=⟨_,rfl⟩;rw [hsn] at HCl HM4 hlj;clear hsn;go_wp2_with fail
    with_reducible refine(HCl.o).mono ?_
    rintro e w5 ⟨v5,rfl,ho5,hb5⟩;have HR8:=Lh ho5.row;have H5:=Lh (HJ1.o.over hb5);have HK5:=Lh (HK.o.over hb5);clear ho5 hb5 y0 y1 y2 sy g0 g1 g2 sg;obtain⟨o8,ho8⟩:∃ o8,o8=oj++sn:=⟨_,rfl⟩;have HO8:=Lh ho8;have HOw8:=Lh H5.o.own;have hB8:=H5.o.world.size;have hN8:oj.length+sn.length≤1099511627776:=(by omega);clear ho8;go_wp2_with (at_builtin;refine wpList_append_old slStrE rfl _ _ rfl w0.heap.size _ _ _ HOw8.o rfl _ _ _ HR8.o rfl (onesS _) hN8 (by decide) hB8 ?_;intro v8 w8 ho8 hg8;(obtain⟨p8,c8,e8,hO8⟩:=sown_moreS (more:=sn) HO8.o ho8);subst e8;have HP8:=Lh (H5.o.push hO8 hg8);have HK8:=Lh (ArrT.arr (HK5.o.grown H5.o.own (by decide) hg8));have y0:=HK8.o.k 0 rfl;have sy:=HK8.o.lt;clear ho8 hg8 hO8);go_roundw
    case rel=>exact⟨jo+1,p8,c8,hlt,by go_num,o8,by rw [HSu.o,← HOj.o,HM4.o];exact HO8.o,rfl,HP8⟩
    simp [intOf];omega
   by_cases k1:kd=1
   rotate_left
   ·
    skip
    have HM0:Hid (seenOne l (bareB (.mk kd nm (.slice a' sub.length cap') sub))=[]):=Lh (by rw [bareB_mk,seenOne_mk,if_neg k1,if_neg k4,if_neg k2,if_neg k3]);have g1':(kd == 1)=false:=(by rw [beq_eq_false_iff_ne];exact k1);have g2':(kd == 2)=false:=(by rw [beq_eq_false_iff_ne];exact k2);have g3':(kd == 3)=false:=(by rw [beq_eq_false_iff_ne];exact k3);have g4':(kd == 4)=false:=(by rw [beq_eq_false_iff_ne];exact k4);go_upto_region 6 with fail;have HK:=Lh (arrT_new wr [.int .i64 kd,.int .i64 nm,.slice a' sub.length cap'] 175);have HNw:=Lh (bnew (w:=wr) (.cells #[.int .i64 kd,.int .i64 nm,.slice a' sub.length cap'] 175));have HJ1:=Lh (HJ.o.over HNw.o);obtain⟨gk,hgk⟩:∃ gk,gk=wr.heap.size:=⟨_,rfl⟩;rw [← hgk] at HK ⊢;generalize wr.alloc (.cells #[.int .i64 kd,.int .i64 nm,.slice a' sub.length cap'] 175)=w3 at *;clear hgk x0 x1 x2 sx;have HKa:=Lh HK.o.arr;have HGw:=Lh ((HG.o.over HJ1.o.world).arr);obtain⟨y0,y1,y2,sy⟩:=HKa.o.c3;obtain⟨g0,g1,g2,sg⟩:=HGw.o.c3;go_wp2;go_roundw
    case rel=>exact⟨jo+1,pj,cj,hlt,by go_num,oj,by rw [HSu.o,← HOj.o,HM0.o,List.append_nil],rfl,HJ1⟩
    simp [intOf];omega
   subst k1;go_upto_region 6 with fail;have HK:=Lh (arrT_new wr [.int .i64 1,.int .i64 nm,.slice a' sub.length cap'] 175);have HNw:=Lh (bnew (w:=wr) (.cells #[.int .i64 1,.int .i64 nm,.slice a' sub.length cap'] 175));have HJ1:=Lh (HJ.o.over HNw.o);obtain⟨gk,hgk⟩:∃ gk,gk=wr.heap.size:=⟨_,rfl⟩;rw [← hgk] at HK ⊢;generalize wr.alloc (.cells #[.int .i64 1,.int .i64 nm,.slice a' sub.length cap'] 175)=w3 at *;clear hgk x0 x1 x2 sx;have HKa:=Lh HK.o.arr;have HGw:=Lh ((HG.o.over HJ1.o.world).arr);obtain⟨y0,y1,y2,sy⟩:=HKa.o.c3;obtain⟨g0,g1,g2,sg⟩:=HGw.o.c3
   by_cases hv1:0≤nm∧nm<(l.length:Int)
   ·
    skip
    obtain⟨i,rfl⟩:∃ i:Nat,nm=(i:Int):=⟨nm.toNat,by omega⟩;obtain⟨x,hx⟩:=gol (xs:=l) (i:=i) (by omega);have HM1:Hid (seenOne l (bareB (.mk 1 (i:Int) (.slice a' sub.length cap') sub))=[x.text]):=Lh (by rw [bareB_mk,seenOne_mk,if_pos rfl,if_pos hv1,Int.toNat_natCast,textAt_get hx]);rw [HM1.o] at hlj;obtain⟨a7,c7',e7',_,_,hc7⟩:=(HSh.o.over HJ1.o.world).row.at encVert_len;cases e7'
    obtain⟨b7,off7,rfl,sb7,hcb7⟩:=hc7.resolve_left (by omega);have x7:w3.cell? ⟨b7,off7+i*9+7,none⟩=some (.string x.text):=(hcb7 i x hx w3 (Below.refl _ _)).2 7 _ rfl;have hll:oj.length+1≤1000000:=(by simpa using hlj);have d1:decide ((i:Int)<(l.length:Int))=true:=decide_eq_true hv1.2;have d2:decide ((i:Int) ≥ 0)=true:=decide_eq_true (by omega);have d3:i<l.length:=(by omega);clear hlj hx hv1 hc7 hcb7;have HOwc:=Lh HJ1.o.own;have hBc:=HJ1.o.world.size;have hNc:oj.length+1≤1099511627776:=(by omega);obtain⟨oc,hoc⟩:∃ oc,oc=oj++[x.text]:=⟨_,rfl⟩;have HOc:=Lh hoc;have hlc:oc.length=oj.length+1:=(by rw [hoc];simp);have hlc':oc.length≤oj.length+1:=Nat.le_of_eq hlc;clear hoc hlc;go_wp2_with ((at_builtin;refine apD slStrE rfl _ _ rfl w0.heap.size _ _ (drf _) 1 _ _ _ HOwc.o rfl rfl rfl rfl hNc (by decide) hBc ?_;intro vc wc hoc hgc);(obtain⟨pc,cc,ec,hOc⟩:=sown_moreS (more:=[x.text]) HOc.o hoc);subst ec;have HPc:=Lh (HJ1.o.push hOc hgc);have HKc:=Lh (HK.o.grown HJ1.o.own (by decide) hgc);clear hoc hgc hOc;have HK8:=Lh HKc.o.arr;have q0:=HK8.o.k 0 rfl;have sq:=HK8.o.lt);go_roundw
    case rel=>exact⟨jo+1,pc,cc,hlt,by go_num,oc,by rw [HSu.o,← HOj.o,HM1.o];exact HOc.o,rfl,HPc⟩
    simp [intOf];omega
   skip
   have HM1:Hid (seenOne l (bareB (.mk 1 nm (.slice a' sub.length cap') sub))=[]):=Lh (by rw [bareB_mk,seenOne_mk,if_pos rfl,if_neg hv1]);clear hlj
   by_cases hp:0≤nm
   ·
    have d1:decide (nm<(l.length:Int))=false:=decide_eq_false (by omega);have d2:decide (nm ≥ 0)=true:=decide_eq_true (by omega);clear hv1;go_wp2;go_roundw
    case rel=>exact⟨jo+1,pj,cj,hlt,by go_num,oj,by rw [HSu.o,← HOj.o,HM1.o,List.append_nil],rfl,HJ1⟩
    simp [intOf];omega
   have d2:decide (nm ≥ 0)=false:=decide_eq_false (by omega);clear hv1;go_wp2;go_roundw
   case rel=>exact⟨jo+1,pj,cj,hlt,by go_num,oj,by rw [HSu.o,← HOj.o,HM1.o,List.append_nil],rfl,HJ1⟩
   simp [intOf];omega
  subst k3;go_upto_region 6 with fail;have HK:=Lh (arrT_new wr [.int .i64 3,.int .i64 nm,.slice a' sub.length cap'] 175);have HNw:=Lh (bnew (w:=wr) (.cells #[.int .i64 3,.int .i64 nm,.slice a' sub.length cap'] 175));have HJ1:=Lh (HJ.o.over HNw.o);obtain⟨gk,hgk⟩:∃ gk,gk=wr.heap.size:=⟨_,rfl⟩;rw [← hgk] at HK ⊢;generalize wr.alloc (.cells #[.int .i64 3,.int .i64 nm,.slice a' sub.length cap'] 175)=w3 at *;clear hgk x0 x1 x2 sx;have HKa:=Lh HK.o.arr;have HGw:=Lh ((HG.o.over HJ1.o.world).arr);obtain⟨y0,y1,y2,sy⟩:=HKa.o.c3;obtain⟨g0,g1,g2,sg⟩:=HGw.o.c3;have HMk:Hid (seenOne l (bareB (.mk 3 nm (.slice a' sub.length cap') sub))=markA :: (seenJoin l markT true (bareL sub)++[markE])):=Lh (by rw [bareB_mk,seenOne_mk];simp);have hlen2:oj.length+(seenJoin l markT true (bareL sub)).length+2≤1000000:=by have h9:=hlj;rw [HMk.o] at h9;simp only [List.length_cons,List.length_append,List.length_nil] at h9;omega
  obtain⟨jn,hjn⟩:∃ jn,jn=(seenJoin l markT true (bareL sub)).length:=⟨_,rfl⟩;rw [← hjn] at hlen2;have HJn:=Lh hjn;clear hjn hlj;have HOwa:=Lh HJ1.o.own;have hBa:=HJ1.o.world.size;have hNa:oj.length+1≤1099511627776:=by omega
  obtain⟨oa,hoa⟩:∃ oa,oa=oj++[markA]:=⟨_,rfl⟩;have HOa:=Lh hoa;have hla:oa.length=oj.length+1:=by rw [hoa];simp
  have hla':oa.length≤oj.length+1:=Nat.le_of_eq hla;clear hoa hla;go_upto_region 12 with((at_builtin;refine apD slStrE rfl _ _ rfl w0.heap.size _ _ (drf _) 1 _ _ _ HOwa.o rfl rfl rfl rfl hNa (by decide) hBa ?_;intro va wa hoa hga);(obtain⟨pa,ca,ea,hOa⟩:=sown_moreS (more:=[markA]) HOa.o hoa);subst ea;have HPa:=Lh (HJ1.o.push hOa hga);have HKa:=Lh (HK.o.grown HJ1.o.own (by decide) hga);clear hoa hga hOa)
  clear hBa;go_wp2;go_loopw [5,8] (fun v5 v8 wq=>RjRel w0 gk l markT oj (.int .i64 3) (.int .i64 nm) (.slice a' sub.length cap') sub v5 v8 wq) (fun _ v8 _=>sub.length - (intOf v8).toNat)
  case atStart=>exact⟨0,pa,ca,Nat.zero_le _,rfl,oa,by rw [List.take_zero,bareL_nil,seenJoin_nil,List.append_nil];exact HOa.o,rfl,HPa,HKa⟩
  obtain⟨j,pq,cq,hj,rfl,oq,hoq,rfl,HQ,HKq⟩:=hrel;rename World=>wq;have HOq:=Lh hoq;clear hoq;have hs9:=HOq.o;have HKs:=Lh HKq.o.arr;obtain⟨y0,y1,y2,sy⟩:=HKs.o.c3
  by_cases hlt2:j<sub.length
  rotate_left
  ·
   obtain rfl:j=sub.length:=(by omega);have hol:oq.length=oj.length+1+jn:=(by rw [HJn.o,hs9,List.take_length];simp;omega);have hol2:oq.length≤oj.length+1+jn:=Nat.le_of_eq hol;clear hol hs9;have HOwz:=Lh HQ.o.own;have hBz:=HQ.o.world.size;have hNz:oq.length+1≤1099511627776:=(by omega);obtain⟨oz,hoz⟩:∃ oz,oz=oq++[markE]:=⟨_,rfl⟩;have HOz:=Lh hoz;have hlz:oz.length=oq.length+1:=(by rw [hoz];simp);have hlz':oz.length≤oq.length+1:=Nat.le_of_eq hlz;clear hoz hlz;go_wp2_with ((at_builtin;refine apD slStrE rfl _ _ rfl w0.heap.size _ _ (drf _) 1 _ _ _ HOwz.o rfl rfl rfl rfl hNz (by decide) hBz ?_;intro vz wz hoz hgz);(obtain⟨pz,cz,ez,hOz⟩:=sown_moreS (more:=[markE]) HOz.o hoz);subst ez;have HPz:=Lh (HQ.o.push hOz hgz);have HKz:=Lh (HKq.o.grown HQ.o.own (by decide) hgz);clear hoz hgz hOz);go_roundw
   case rel=>exact⟨jo+1,pz,cz,hlt,by go_num,oz,by rw [HOz.o,HOq.o,HSu.o,HMk.o,← HOj.o,List.take_length];simp,rfl,HPz⟩
   simp [intOf];omega
  obtain⟨b',off',rfl,sb',hcs⟩:=HCs.o.resolve_left (by omega);obtain⟨⟨kx,nx,sx,ux⟩,hx⟩:=gol hlt2;have hm:=List.mem_of_getElem? hx;have HXi:=Lh (bins_mem HSin.o hm);have HX1:=Lh (blk_one HSub.o hx);have HX:=Lh hx;have HSz1:Hid (SizeOf.sizeOf [BlL.mk kx nx sx ux]<N):=Lh (by have:=one_size hm;have:=HSz.o;omega);have HSu2:=Lh (join_succ l markT hx);obtain⟨sn,hsn⟩:∃ sn,seenOne l (bareB (.mk kx nx sx ux))=sn:=⟨_,rfl⟩;have hjl:=join_le l markT hlt2 hx;rw [hsn,← HJn.o] at hjl;have hol:oq.length=oj.length+1+(seenJoin l markT true (bareL (sub.take j))).length:=by rw [hs9];simp;omega
  have hob:oq.length+sn.length+(if j=0 then 0 else 1)≤1000000:=by omega
  have HSn:=Lh hsn;have HCl:Hid (∀ V,Be w0 V→Calls Tryz.prog 110 #[.agg #[.slice lp l.length lc,.int .i64 l.length,.slice sp R.length sc],.slice (some ⟨b',off'+j*3,none⟩) (j+1 - j) (cap' - j)] V (OwnRes encS1 1 9 V sn)):=Lh fun V hV=>by have h9:=HIH.o _ [.mk kx nx sx ux] V HSz1.o (HX1.o.over hV) (bins_one (HXi.o.over hV)) (HSh.o.over hV) (by rw [bareL_map,List.map_cons,List.map_nil,seenAll_one,HSn.o];omega);rw [bareL_map,List.map_cons,List.map_nil,seenAll_one,HSn.o] at h9;rw [show j+1 - j=1 by omega];exact h9
  clear hcs hx hm hsn hjl hol hs9
  by_cases hj0:j=0
  ·
   have g0:decide ((j:Int) > 0)=false:=decide_eq_false (by omega);have g1:¬ 0<j:=(by omega);have hob2:oq.length+sn.length≤1000000:=(by rw [if_pos hj0] at hob;omega);clear hob y0 y1 y2 sy;have HKr:=Lh HKq.o.arr;have HGr:=Lh ((HG.o.over HQ.o.world).arr);have HCw:Hid (∀ V,Be wq V→Calls Tryz.prog 110 #[.agg #[.slice lp l.length lc,.int .i64 l.length,.slice sp R.length sc],.slice (some ⟨b',off',none⟩) 1 cap'] V (OwnRes encS1 1 9 V sn)):=Lh fun V hV=>by have h9:=HCl.o V (bvo HQ.o.world hV);rw [hj0] at h9;simpa using h9
   obtain⟨k0,k1,k2,sk⟩:=HKr.o.c3;obtain⟨r0,r1,r2,sr⟩:=HGr.o.c3;go_upto_region 19 with fail;refine wlo 9 fun hcur=>?_;(repeat(first|refine lxq ?_|(refine lxl rfl ?_;go_wp2_with (first|(go_at_call 110;(with_reducible refine(HCw.o _ hcur).mono ?_);rintro e w5 ⟨v5,rfl,ho5,hb5⟩;have HR8:=Lh ho5.row;replace hcur:=bvo hcur hb5;clear ho5 hb5));refine⟨iov (by first|exact hcur|exact hcur.alloc hcur.size _),?_⟩)));refine lxe ?_;have H5:=Lh (HQ.o.over hcur);have HK5:=Lh (HKq.o.over hcur);clear hcur k0 k1 k2 sk r0 r1 r2 sr;obtain⟨o8,ho8⟩:∃ o8,o8=oq++sn:=⟨_,rfl⟩;have HO8:=Lh ho8;have HOw8:=Lh H5.o.own;have hB8:=H5.o.world.size;have hN8:oq.length+sn.length≤1099511627776:=(by omega);clear ho8;go_wp2_with (at_builtin;refine wpList_append_old slStrE rfl _ _ rfl w0.heap.size _ _ _ HOw8.o rfl _ _ _ HR8.o rfl (onesS _) hN8 (by decide) hB8 ?_;intro v8 w8 ho8 hg8;(obtain⟨p8,c8,e8,hO8⟩:=sown_moreS (more:=sn) HO8.o ho8);subst e8;have HP8:=Lh (H5.o.push hO8 hg8);have HK8:=Lh (HK5.o.grown H5.o.own (by decide) hg8);clear ho8 hg8 hO8);go_roundw
   case rel=>exact⟨j+1,p8,c8,hlt2,by go_num,o8,by rw [HO8.o,HOq.o,HSu2.o,HSn.o,if_pos hj0,List.nil_append,List.append_assoc],rfl,HP8,HK8⟩
   simp [intOf];omega
  have g0:decide ((j:Int) > 0)=true:=decide_eq_true (by omega);have g1:0<j:=by omega
  have gcj:¬ cap'=j:=by omega
  have hob2:oq.length+sn.length+1≤1000000:=by rw [if_neg hj0] at hob;omega
  clear hob;have HOwb:=Lh HQ.o.own;have hBb:=HQ.o.world.size;have hNb:oq.length+1≤1099511627776:=by omega
  obtain⟨ob,hob⟩:∃ ob,ob=oq++[markT]:=⟨_,rfl⟩;have HOb:=Lh hob;have hlb:ob.length=oq.length+1:=by rw [hob];simp
  have hlb':ob.length≤oq.length+1:=Nat.le_of_eq hlb;clear hob hlb;have hob3:ob.length+sn.length≤1000000:=by omega
  go_upto_region 19 with((at_builtin;refine apD slStrE rfl _ _ rfl w0.heap.size _ _ (drf _) 1 _ _ _ HOwb.o rfl rfl rfl rfl hNb (by decide) hBb ?_;intro vb wb hob hgb);(obtain⟨pb,cb,eb,hOb⟩:=sown_moreS (more:=[markT]) HOb.o hob);subst eb;have HPb:=Lh (HQ.o.push hOb hgb);have HKb:=Lh (HKq.o.grown HQ.o.own (by decide) hgb);clear hob hgb hOb;have HKb9:=Lh HKb.o.arr;have q0:=HKb9.o.k 0 rfl;have sq:=HKb9.o.lt)
  clear hBb y0 y1 y2 sy q0 sq;have HKr:=Lh HKb.o.arr;have HGr:=Lh ((HG.o.over HPb.o.world).arr);have HCw:Hid (∀ V,Be wb V→Calls Tryz.prog 110 #[.agg #[.slice lp l.length lc,.int .i64 l.length,.slice sp R.length sc],.slice (some ⟨b',off'+j*3,none⟩) 1 (cap' - j)] V (OwnRes encS1 1 9 V sn)):=Lh fun V hV=>by have h9:=HCl.o V (bvo HPb.o.world hV);rw [show j+1 - j=1 by omega] at h9;exact h9
  obtain⟨k0,k1,k2,sk⟩:=HKr.o.c3;obtain⟨r0,r1,r2,sr⟩:=HGr.o.c3;refine wlo 9 fun hcur=>?_;repeat(first|refine lxq ?_|(refine lxl rfl ?_;go_wp2_with (first|(go_at_call 110;(with_reducible refine(HCw.o _ hcur).mono ?_);rintro e w5 ⟨v5,rfl,ho5,hb5⟩;have HR8:=Lh ho5.row;replace hcur:=bvo hcur hb5;clear ho5 hb5));refine⟨iov (by first|exact hcur|exact hcur.alloc hcur.size _),?_⟩))
  refine lxe ?_;have H5:=Lh (HPb.o.over hcur);have HK5:=Lh (HKb.o.over hcur);clear hcur k0 k1 k2 sk r0 r1 r2 sr;obtain⟨o8,ho8⟩:∃ o8,o8=ob++sn:=⟨_,rfl⟩;have HO8:=Lh ho8;have HOw8:=Lh H5.o.own;have hB8:=H5.o.world.size;have hN8:ob.length+sn.length≤1099511627776:=by omega
  clear ho8;go_wp2_with (at_builtin;refine wpList_append_old slStrE rfl _ _ rfl w0.heap.size _ _ _ HOw8.o rfl _ _ _ HR8.o rfl (onesS _) hN8 (by decide) hB8 ?_;intro v8 w8 ho8 hg8;(obtain⟨p8,c8,e8,hO8⟩:=sown_moreS (more:=sn) HO8.o ho8);subst e8;have HP8:=Lh (H5.o.push hO8 hg8);have HK8:=Lh (HK5.o.grown H5.o.own (by decide) hg8);clear ho8 hg8 hO8);go_roundw
  case rel=>exact⟨j+1,p8,c8,hlt2,by go_num,o8,by rw [HO8.o,HOb.o,HOq.o,HSu2.o,HSn.o,if_neg hj0];simp only [List.append_assoc],rfl,HP8,HK8⟩
  simp [intOf];omega
theorem rblocks_rec(lv sv0:Value)(l:List VertM)(R:List (Nat × Nat)):∀ N,RbC lv sv0 l R N
 | 0=>fun v xs w hs _ _ _ _=>absurd hs (Nat.not_lt_zero _)
 | N+1=>rblocks_step lv sv0 l R N (rblocks_rec lv sv0 l R N)
theorem rblocks_any(lv sv0:Value)(l:List VertM)(R:List (Nat × Nat))(N:Nat)(v:Value)(xs:List BlL)(w:World)(hs:SizeOf.sizeOf xs<N)(hv:GRow encBl 3 w v xs)(hi:BIns (fun _=>True) w xs)(hS:RSh w lv sv0 l R)(hlen:(seenAll l (bareL xs)).length≤1000000) :
  Calls Tryz.prog 110 #[rsV lv l.length sv0,v] w (OwnRes encS1 1 9 w (seenAll l (bareL xs))):=rblocks_rec lv sv0 l R N v xs w hs hv hi hS hlen
end
attribute [local irreducible] lnSeen lnOdd aliveX seenAll oddL blkM bareL
theorem rlines_any(lv sv0:Value)(l:List VertM)(R:List (Nat × Nat))(w:World)(hS:RSh w lv sv0 l R)(hl:l.length≤65536):Calls Tryz.prog 60 #[rsV lv l.length sv0] w (LnRes w l R):=by
 obtain⟨lp,lc,sp,sc,rfl,rfl,hlc⟩:=hS.form;unfold maxLen at hlc;have HS:=Lh (hS.over (bnew (w:=w) (.cells #[.slice lp l.length lc,.int .i64 l.length,.slice sp R.length sc] 105)));have HG:=Lh (anw w #[.slice lp l.length lc,.int .i64 l.length,.slice sp R.length sc] 105);have HB:=Lh (bnew (w:=w) (.cells #[.slice lp l.length lc,.int .i64 l.length,.slice sp R.length sc] 105));have HF:=Lh (ln_few l R);have HA:=Lh (aliveX_len l R);clear hS;unfold rsV;go_enter Tryz.func60,Tryz.ntmps60;go_upto_region 1 with fail;generalize w.alloc (.cells #[.slice lp l.length lc,.int .i64 l.length,.slice sp R.length sc] 105)=w0 at *;have HAl:Hid (∀ W,Be w0 W→Calls Tryz.prog 47 #[.agg #[.slice lp l.length lc,.int .i64 l.length,.slice sp R.length sc]] W (OwnRes encI 1 3 W (aliveX l R))):=Lh fun W hW=>by have h:=r21alive_any _ _ l R W (HS.o.over hW);unfold rsV at h;exact h
 have HOf:Hid (∀ v W,Be w0 W→GRow encI 1 W v (aliveX l R)→Calls Tryz.prog 46 #[.agg #[.int .i64 l.length,.slice sp R.length sc],v] W (ROfRes W (lnBlk l R))):=Lh fun v W hW hv=>by have h:=rof22_any l.length R ((aliveX l R).length+1) (aliveX l R) v _ W (Nat.lt_succ_self _) (by have:=HA.o;omega) (HS.o.over hW).rel hv;exact h
 obtain⟨g0,g1,g2,sg⟩:=HG.o.c3;refine wlo 6 fun hcur=>?_;repeat(first|refine lxq ?_|(refine lxl rfl ?_;go_wp2_with (first|(go_at_call 47;(with_reducible refine(HAl.o _ hcur).mono ?_);rintro e w2 ⟨v2,rfl,ho2,hb2⟩;have HR2:=Lh ho2.row;replace hcur:=bvo hcur hb2;clear hb2 ho2)|(go_at_call 46;(with_reducible refine(HOf.o _ _ hcur HR2.o).mono ?_);rintro e w3 ⟨v3,xs,rfl,hx3,hr3,hb3⟩;(obtain⟨p3,c3,e3,_,_,_⟩:=hx3.own.row.at encBl_len);subst e3;have HX3:=Lh hx3;have HR3:=Lh hr3;replace hcur:=bvo hcur hb3;clear hx3 hr3 hb3));refine⟨iov hcur,?_⟩))
 refine lxe ?_;have HG3:=Lh (HG.o.over hcur);have HSe:Hid (seenAll l (bareL xs)=lnSeen l R):=Lh (by rw [HR3.o];unfold lnSeen;rfl);have HOd:Hid (oddL (bareL xs)=lnOdd l R):=Lh (by rw [HR3.o];unfold lnOdd;rfl);have HB3:=Lh (bvo HB.o hcur);have HS3:=Lh (HS.o.over hcur);clear hcur g0 g1 g2 sg;obtain⟨g0,g1,g2,sg⟩:=HG3.o.c3;go_wp2_with fail;have h9:=rblocks_any (.slice lp l.length lc) (.slice sp R.length sc) l R (SizeOf.sizeOf xs+1) _ xs w3 (Nat.lt_succ_self _) HX3.o.own.row (bins_true HX3.o.ins) HS3.o (by rw [HSe.o];have:=HF.o.1;omega);unfold rsV at h9;refine h9.mono ?_;clear h9;rintro e w4 ⟨v4,rfl,ho4,hb4⟩;rw [HSe.o] at ho4;have HO4:=Lh ho4;have HB4:=Lh (bvo HB3.o hb4);have HX4:=Lh (HX3.o.over hb4);have hs4:=HB3.o.size;clear ho4 hb4;go_wp2_with fail;refine(rodd_any (fun _=>True) (SizeOf.sizeOf xs+1) _ xs _ (Nat.lt_succ_self _) HX4.o.own.row (bins_true HX4.o.ins) (by rw [HOd.o];have:=HF.o.2;omega)).mono ?_;rintro e w5 ⟨rfl,hb5⟩;have HO5:=Lh ((HO4.o.over hb5).base hs4);have HB5:=Lh (bvo HB4.o hb5);clear hb5;go_wp2_with fail;refine bodyPost_ret (results_tmp2 rfl _ _ _) rfl ?_;exact lnres_mk HOd.o HO5.o HB5.o
end Go.Proofs.YtanfebljiblhbaaGreatDoor
