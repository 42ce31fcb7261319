/- What is proved: PlanTwo, for every input; of the listed tables the walk needs the powers of ten. -/
import Derived.Test.YtjccmcgglfncdaaGreatDoorTPlF
import Derived.Test.YtjccmcgglfncdaaGreatDoorTGrE2
set_option linter.unusedVariables false
set_option linter.unusedSimpArgs false
set_option maxRecDepth 100000
set_option maxHeartbeats 40000000
namespace Go.Proofs.YtjccmcgglfncdaaGreatDoor
open Go Go.RowKit
section
theorem cmpVid_lt1{a b:VidM}(h:packVid a<packVid b):cmpVid a b = -1:=cmpN_lt h
theorem cmpVid_same1(a:VidM):cmpVid a a=0:=cmpN_eq rfl
theorem cmpVid_nlt1{a b:VidM}(h:¬ packVid a<packVid b):decide (cmpVid a b<0)=false:=by rw [decide_eq_false_iff_not];unfold cmpVid;rw [cmpN_neg];exact h
attribute [local irreducible] cmpVid
theorem lcmp_any(x:VertM)(v:VidM)(w:World):Calls Tryz.prog 89 #[vertV x,vidV v] w fun e w'=>e=.returned (.int .i64 (cmpVid x.id v))∧Be w w':=by have HA:=Lh ((anw w (cX x) 101).alloc (.cells (cV v) 74));have HC:=Lh (an2 w (.cells (cX x) 101) (cV v) 74);have HB:=Lh ((bnew (w:=w) (.cells (cX x) 101)).alloc (by simp) (.cells (cV v) 74));unfold vertV vidV;go_enter Tryz.func89,Tryz.ntmps89;go_upto_region 1 with fail;generalize (w.alloc (.cells (cX x) 101)).alloc (.cells (cV v) 74)=w0 at *;obtain⟨c0,c1,c2,c3,c4,c5,c6,c7,c8,sc⟩:=HA.o.c9;obtain⟨d0,d1,d2,sd⟩:=HC.o.c3;go_wp2_with fail;refine(vcmpG x.id v _).mono ?_;rintro e w1 ⟨rfl,hg⟩;have HB1:=Lh (bvo HB.o hg.below);clear hg;go_wp2;go_ret;exact⟨rfl,HB1.o⟩
theorem key_lt{l:List VertM}(hs:Rises vertKey l){a b:Nat}{x y:VertM}(ha:l[a]? = some x)(hb:l[b]? = some y)(h:packVid x.id<packVid y.id):a<b:=by
 obtain⟨h1,e1⟩:=List.getElem?_eq_some_iff.1 ha;obtain⟨h2,e2⟩:=List.getElem?_eq_some_iff.1 hb;rcases Nat.lt_trichotomy a b with q|q|q
 · exact q
 · subst q;rw [e1] at e2;subst e2;omega
 have:=List.pairwise_iff_getElem.1 hs b a h2 h1 q;rw [e1,e2] at this;unfold vertKey at this;omega
theorem key_ge{l:List VertM}(hs:Rises vertKey l){a b:Nat}{x y:VertM}(ha:l[a]? = some x)(hb:l[b]? = some y)(h:¬ packVid x.id<packVid y.id):b≤a:=by obtain⟨h1,e1⟩:=List.getElem?_eq_some_iff.1 ha;obtain⟨h2,e2⟩:=List.getElem?_eq_some_iff.1 hb;refine Nat.le_of_not_lt fun q=>h ?_;have:=List.pairwise_iff_getElem.1 hs a b h1 h2 q;rw [e1,e2] at this;exact this
def BvRel(w0:World)(k0 n:Nat)(iv jv:Value)(wr:World):Prop:=∃ i j:Nat,iv=.int .i64 i∧jv=.int .i64 j∧i≤k0∧k0≤j∧j≤n∧Hid (Be w0 wr)
theorem bsV_any(lv:Value)(l:List VertM)(v:VidM)(w:World)(hv:GRow encVert 9 w lv l)(hs:Rises vertKey l)(hm:v∈l.map (·.id))(hn:l.length≤1000000) :
  Calls Tryz.prog 88 #[lv,vidV v,.func (.func 89) #[] #[]] w fun e w'=>e=.returned (.tuple #[.int .i64 (placeM l v:Int),.bool true])∧Be w w':=by
 obtain⟨a,cap,rfl,h1,h2,hc⟩:=hv.at encVert_len;unfold maxLen at h2;have HC:=Lh hc;have HS:=Lh hs;obtain⟨y,hy,hyv⟩:=place_get hm;obtain⟨k0,hk0⟩:∃ k0,placeM l v=k0:=⟨_,rfl⟩;rw [hk0] at hy ⊢;have hkl:=(List.getElem?_eq_some_iff.1 hy).1;have HY:=Lh hy;have HYV:=Lh hyv;have HF:=Lh (anw w (cV v) 74);have HB:=Lh (bnew (w:=w) (.cells (cV v) 74));clear hv hc hs hm hy hyv hk0;unfold vidV;go_enter Tryz.func88,Tryz.ntmps88;go_upto_region 1 with fail;generalize w.alloc (.cells (cV v) 74)=w0 at *;go_wp2;go_loopw [9,10] (fun v9 v10 wr=>BvRel w0 k0 l.length v9 v10 wr) (fun i j _=>(intOf j).toNat - (intOf i).toNat)
 case atStart=>exact⟨0,l.length,rfl,rfl,by omega,by omega,Nat.le_refl _,Below.refl _ _⟩
 obtain⟨i,j,rfl,rfl,hi,hj,hjl,hbl⟩:=hrel;have HBr:=Lh (bvo HB.o hbl.o);have HFr:=Lh (HF.o.over hbl.o);obtain⟨f0,f1,f2,sf⟩:=HFr.o.c3
 by_cases hlt:i<j
 rotate_left
 ·
  obtain rfl:k0=i:=by omega
  obtain rfl:j=k0:=by omega
  obtain⟨b,off,rfl,sb,hcb⟩:=HC.o.resolve_left (by omega);have HRx:=Lh (hcb j y HY.o wr HBr.o);obtain⟨x0,x1,x2,x3,x4,x5,x6,x7,x8,sx⟩:=rc9 HRx.o;have HE:Hid (cmpVid y.id v=0):=by show _=_;rw [HYV.o];exact cmpVid_same1 v
  have d1:decide ((j:Int)<(l.length:Int))=true:=by simp;omega
  have d2:decide (j<l.length)=true:=by simp [hkl]
  clear hcb;go_wp2_with fail;refine wlo 16 fun hcur=>?_;repeat(first|refine lxq ?_|(refine lxl rfl ?_;go_wp2_with (first|(go_at_call 89;(with_reducible refine(lcmp_any y v _).mono ?_);rintro e w' ⟨rfl,hb⟩;rw [HE.o];have hcur:=bvo hcur hb));refine⟨iov hcur,?_⟩))
  refine lxe ?_;have HB4:=Lh (bvo hbl.o hcur);clear hcur;go_wp2;go_ret2;exact⟨rfl,bvo HB.o HB4.o⟩
 obtain⟨q,hq⟩:∃ q,(i+j) / 2=q:=⟨_,rfl⟩;have eq':((i:Int)+(j:Int)) / 2=(q:Int):=by omega
 have hiq:i≤q:=by omega
 have hqj:q<j:=by omega
 obtain⟨b,off,rfl,sb,hcb⟩:=HC.o.resolve_left (by omega);obtain⟨x,hx⟩:=gol (xs:=l) (i:=q) (by omega);have HX:=Lh hx;have HRx:=Lh (hcb q x hx wr HBr.o);obtain⟨x0,x1,x2,x3,x4,x5,x6,x7,x8,sx⟩:=rc9 HRx.o;clear hcb hx hq
 by_cases hp:packVid x.id<packVid v
 ·
  have HE:=Lh (cmpVid_lt1 hp);have hqk:q<k0:=key_lt HS.o HX.o HY.o (by rw [HYV.o];exact hp);clear hp;go_wp2_with fail;refine wlo 8 fun hcur=>?_;repeat(first|refine lxq ?_|(refine lxl rfl ?_;go_wp2_with (first|(go_at_call 89;(with_reducible refine(lcmp_any x v _).mono ?_);rintro e w' ⟨rfl,hb⟩;rw [HE.o];have hcur:=bvo hcur hb));refine⟨iov hcur,?_⟩))
  refine lxe ?_;have HB4:=Lh (bvo hbl.o hcur);clear hcur;go_wp2;go_roundw
  case rel=>exact⟨q+1,j,by go_num,rfl,hqk,hj,hjl,HB4⟩
  simp [intOf];omega
 have HE:=Lh (cmpVid_nlt1 hp);have hqk:k0≤q:=key_ge HS.o HX.o HY.o (by rw [HYV.o];exact hp);have hnn:=HE.o;clear hp;go_wp2_with fail;refine wlo 8 fun hcur=>?_;repeat(first|refine lxq ?_|(refine lxl rfl ?_;go_wp2_with (first|(go_at_call 89;(with_reducible refine(lcmp_any x v _).mono ?_);rintro e w' ⟨rfl,hb⟩;have hcur:=bvo hcur hb));refine⟨iov hcur,?_⟩))
 refine lxe ?_;have HB4:=Lh (bvo hbl.o hcur);clear hcur;go_wp2;go_roundw
 case rel=>exact⟨i,q,rfl,rfl,hi,hqk,by omega,HB4⟩
 simp [intOf];omega
theorem lat_any(v:VidM)(c s:Nat)(lp:Option Addr)(lc:Nat)(u1 u2:Value)(l:List VertM)(w:World)(hC:Arr w c [.pointer (some ⟨s,0,none⟩)])(hS:Arr w s [.slice lp l.length lc,u1,u2])(hv:GRow encVert 9 w (.slice lp l.length lc) l)
  (hs:Rises vertKey l) (hm:v∈l.map (·.id)) (hn:l.length≤1000000) :
  Calls Tryz.prog 87 #[vidV v,.pointer (some ⟨c,0,none⟩)] w fun e w'=>e=.returned (.int .i64 (placeM l v:Int))∧Be w w':=by
 have HF:=Lh (anw w (cV v) 74);have HB:=Lh (bnew (w:=w) (.cells (cV v) 74));have HC:=Lh (hC.alloc (.cells (cV v) 74));have HS:=Lh (hS.alloc (.cells (cV v) 74));have HV:=Lh (hv.over (bnew (w:=w) (.cells (cV v) 74)));have HR:=Lh (And.intro hs hm);clear hC hS hv hs hm;unfold vidV;go_enter Tryz.func87,Tryz.ntmps87;go_upto_region 1 with fail;generalize w.alloc (.cells (cV v) 74)=w0 at *;obtain⟨f0,f1,f2,sf⟩:=HF.o.c3;obtain⟨c0,sc⟩:=HC.o.c1;obtain⟨s0,ss⟩:=HS.o.c1;refine wlo 11 fun hcur=>?_;repeat(first|refine lxq ?_|(refine lxl rfl ?_;go_wp2_with (first|(go_at_call 88;(with_reducible refine(bsV_any _ l v _ (HV.o.over hcur) HR.o.1 HR.o.2 hn).mono ?_);rintro e w' ⟨rfl,hb⟩;have hcur:=bvo hcur hb));refine⟨iov hcur,?_⟩))
 refine lxe ?_;have HB4:=Lh (bvo HB.o hcur);clear hcur;go_wp2;go_ret;exact⟨rfl,HB4.o⟩
end
variable{L:List PatchM}{w:World}
def ShAt(w:World)(s:Nat)(l:List VertM)(R:List (Nat × Nat)):Prop:=∃ lp lc r op oc,Arr w s [.slice lp l.length lc,.pointer (some ⟨r,0,none⟩),.slice op l.length oc]∧GRow encVert 9 w (.slice lp l.length lc) l∧RelAt w r l.length R∧GRow encI 1 w (.slice op l.length oc) (orderM R l.length)
theorem ShAt.over{w':World}{s:Nat}{l:List VertM}{R:List (Nat × Nat)}(h:ShAt w s l R)(hb:Be w w'):ShAt w' s l R:=by obtain⟨lp,lc,r,op,oc,h1,h2,h3,h4⟩:=h;exact⟨lp,lc,r,op,oc,h1.over hb,h2.over hb,h3.over hb,h4.over hb⟩
theorem orderM_len(R:List (Nat × Nat))(n:Nat):(orderM R n).length=n:=by have h1:=orderTo_len R n n;have h2:=whole_len (orderTo_whole R n n);unfold orderM;omega
theorem vown_form{B:Nat}{e:TypeId}{v:Value}{xs:List VertM}(h:GOwn encVert 9 e w B v xs):∃ p c,v=.slice p xs.length c:=by obtain⟨a,cap,e1,_⟩:=h.row.at encVert_len;exact⟨a,cap,e1⟩
theorem lines_few{file:VidM}(h:(idsM L).length≤65536):(linesM L file).length≤65536:=by refine Nat.le_trans (List.length_filter_le _ _) ?_;unfold vertsM;rw [List.length_map];exact h
theorem lines_rise(hw:WfG L)(file:VidM):Rises vertKey (linesM L file):=List.Pairwise.filter _ (rises_vertsM (wf_len hw))
theorem steps_few{file:VidM}(h:(edgesM L).length≤1000000):(stepsM L file).length≤1000000:=Nat.le_trans (List.length_filter_le _ _) h
theorem grown_lift{w':World}(hb:Be w w')(row:Option Nat):w.grownBy w' row:=⟨hb.os,hb.tape,hb.output,hb.size,fun i hi _=>hb.block i hi⟩
theorem linesM_eq(L:List PatchM)(file:VidM):ofM L file 3=linesM L file:=rfl
def LofRes(w:World)(l:List VertM)(R:List (Nat × Nat))(e:Ending)(w':World):Prop:=∃ s,e=.returned (.pointer (some ⟨s,0,none⟩))∧w.heap.size≤s∧ShAt w' s l R∧Be w w'
def LofL(w:World)(l:List VertM)(R:List (Nat × Nat))(e:Ending)(w':World):Prop:=∃ s,e=.returned (.pointer (some ⟨s,0,none⟩))∧w.heap.size≤s∧ShAt w' s l R∧Be w w'∧∃ lp lc v1 v2,Arr w' s [.slice lp l.length lc,v1,v2]∧GOwn encVert 9 101 w' w.heap.size (.slice lp l.length lc) l
def LoRel(w3:World)(R:List (Nat × Nat))(v7 v20:Value)(wr:World):Prop:=∃ k:Nat,k≤R.length∧v20=.int .i64 k∧Hid (GOwn encP 2 169 wr w3.heap.size v7 (R.take k))∧Hid (Be w3 wr)
theorem take_snoc{B:Nat}{e:TypeId}{v:Value}{R:List (Nat × Nat)}{k:Nat}{s:Nat × Nat}(hs:R[k]? = some s)(h:GOwn encP 2 e w B v (R.take k++[s])):GOwn encP 2 e w B v (R.take (k+1)):=by rw [take_one hs];exact h
attribute [local irreducible] placeM linesM relM stepsM orderM
def relE(ls:List VertM)(es:List EdgeM):List (Nat × Nat):=es.map fun e=>(placeM ls e.1,placeM ls e.2)
theorem lofL_gen(p:Option Addr)(ls:List VertM)(es:List EdgeM)(file:VidM)(w:World)(hof:∀ W,Be w W→Calls Tryz.prog 86 #[.pointer p,vidV file,.int .u8 3] W (OwnRes encVert 9 101 W ls))
  (hst:∀ W,Be w W→Calls Tryz.prog 91 #[.pointer p,vidV file] W (OwnRes encEdge 6 133 W es)) (hll:ls.length≤65536) (hel:es.length≤1000000) (hri:Rises vertKey ls)
  (hen:∀ e∈es,e.1∈ls.map (·.id)∧e.2∈ls.map (·.id)) (hlt:∀ s∈relE ls es,s.1<ls.length∧s.2<ls.length) :
  Calls Tryz.prog 39 #[.pointer p,vidV file] w (LofL w ls (relE ls es)):=by
 have HF:=Lh (anw w (cV file) 74);have HB:=Lh (bnew (w:=w) (.cells (cV file) 74));have HOf:=Lh hof;have HSt:=Lh hst;have hrf:(relE ls es).length≤1000000:=by unfold relE;rw [List.length_map];exact hel
 have HRLn:Hid ((relE ls es).length=es.length):=Lh (by unfold relE;rw [List.length_map]);have HRI:=Lh hri;have HAt:Hid (∀(k:Nat) (e:EdgeM),es[k]? = some e→(relE ls es)[k]? = some (placeM ls e.1,placeM ls e.2)):=Lh (fun k e h=>by unfold relE;rw [List.getElem?_map,h];rfl);have HEn:=Lh hen;have HLt:=Lh hlt;clear hof hst hri hen hlt;unfold vidV;go_enter Tryz.func39,Tryz.ntmps39;go_upto_region 1 with fail;generalize w.alloc (.cells (cV file) 74)=w0 at *;obtain⟨f0,f1,f2,sf⟩:=HF.o.c3;go_wp2_with fail;refine(HOf.o _ HB.o).mono ?_;rintro e w1 ⟨lv,rfl,ho1,hb1⟩;obtain⟨lp,lc,rfl⟩:=vown_form ho1;have HO1:=Lh ho1;have HB1:=Lh hb1;clear ho1 hb1 f0 f1 f2 sf;go_upto_region 2 with fail;have HS2:=Lh (show ArrT ((w1.alloc (.cells #[.slice lp ls.length lc,.pointer none,.slice none 0 0] 162)).alloc (.cells #[.pointer (some ⟨w1.heap.size,0,none⟩)] 90)) w1.heap.size 162 [.slice lp ls.length lc,.pointer none,.slice none 0 0] from ArrT.over (arrT_new w1 [.slice lp ls.length lc,.pointer none,.slice none 0 0] 162) (bnew _));have HC2:=Lh (show ArrT ((w1.alloc (.cells #[.slice lp ls.length lc,.pointer none,.slice none 0 0] 162)).alloc (.cells #[.pointer (some ⟨w1.heap.size,0,none⟩)] 90)) (w1.heap.size+1) 90 [.pointer (some ⟨w1.heap.size,0,none⟩)] from(show(w1.alloc (.cells #[.slice lp ls.length lc,.pointer none,.slice none 0 0] 162)).heap.size=w1.heap.size+1 by simp)▸arrT_new (w1.alloc (.cells #[.slice lp ls.length lc,.pointer none,.slice none 0 0] 162)) [.pointer (some ⟨w1.heap.size,0,none⟩)] 90);have HB2:=Lh ((bnew (w:=w1) (.cells #[.slice lp ls.length lc,.pointer none,.slice none 0 0] 162)).alloc (by simp) (.cells #[.pointer (some ⟨w1.heap.size,0,none⟩)] 90));generalize (w1.alloc (.cells #[.slice lp ls.length lc,.pointer none,.slice none 0 0] 162)).alloc (.cells #[.pointer (some ⟨w1.heap.size,0,none⟩)] 90)=w2 at *;have hs0:w.heap.size≤w1.heap.size:=Nat.le_trans HB.o.size HB1.o.size;have hsl:w1.heap.size<w2.heap.size:=HS2.o.arr.lt;obtain⟨s,hs⟩:∃ s,s=w1.heap.size:=⟨_,rfl⟩;have HS3:=HS2.o;have HC3:=HC2.o;rw [← hs] at HS3 HC3 hs0 hsl ⊢;obtain⟨c,hc⟩:∃ c,c=s+1:=⟨_,rfl⟩;rw [← hc] at HC3 ⊢;have HS:=Lh HS3;have HC:=Lh HC3;have HO2:=Lh (HO1.o.over HB2.o);have HF2:=Lh (HF.o.over (bvo HB1.o HB2.o));have HBB:=Lh (bvo HB.o (bvo HB1.o HB2.o));have hcs:c≠s:=by omega
 clear hs hc HS3 HC3 HS2 HC2 HO1;obtain⟨f0,f1,f2,sf⟩:=HF2.o.c3;go_wp2_with fail;refine(HSt.o _ HBB.o).mono ?_;rintro e w3 ⟨ev,rfl,ho3,hb3⟩;obtain⟨ep,ec,rfl,z1,z2,hce⟩:=ho3.row.at encEdge_len;unfold maxLen at z2;have HCE:=Lh hce;have HB3:=Lh hb3;have HS3:=Lh (HS.o.over hb3);have HC3:=Lh (HC.o.over hb3);have HO3:=Lh (HO2.o.over hb3);clear ho3 hb3 hce f0 f1 f2 sf;rw [← HRLn.o] at z1 ⊢;go_wp2;go_loopw [7,20] (fun v7 v20 wr=>LoRel w3 (relE ls es) v7 v20 wr) (fun _ v20 _=>(relE ls es).length - (intOf v20).toNat)
 case atStart=>exact⟨0,by omega,rfl,Lh (by rw [List.take_zero];exact gown_nil _ _),Below.refl _ _⟩
 obtain⟨k,hk,rfl,HM,hbl⟩:=hrel;rename World=>wr
 by_cases hlt:k<(relE ls es).length
 ·
  obtain⟨b3,off3,rfl,sb3,hcb⟩:=HCE.o.resolve_left (by rw [← HRLn.o];omega);obtain⟨x,hx⟩:=gol (xs:=es) (i:=k) (by rw [← HRLn.o];exact hlt);have HX:=Lh (HAt.o k x hx);obtain⟨hm1,hm2⟩:=HEn.o x (List.mem_of_getElem? hx);have HM1:=Lh hm1;have HM2:=Lh hm2;have HRx:=Lh (hcb k x hx wr hbl.o);obtain⟨x0,x1,x2,x3,x4,x5,sx⟩:=rc6 HRx.o;clear hcb hx hm1 hm2;go_upto_region 7 with fail;have HA7:=Lh (anw wr #[.int .u8 x.1.pid.author.toNat,.int .u16 x.1.pid.seq.toNat,.int .u8 x.1.n.toNat,.int .u8 x.2.pid.author.toNat,.int .u16 x.2.pid.seq.toNat,.int .u8 x.2.n.toNat] 133);have HB7:=Lh (bnew (w:=wr) (.cells #[.int .u8 x.1.pid.author.toNat,.int .u16 x.1.pid.seq.toNat,.int .u8 x.1.n.toNat,.int .u8 x.2.pid.author.toNat,.int .u16 x.2.pid.seq.toNat,.int .u8 x.2.n.toNat] 133));generalize wr.alloc (.cells #[.int .u8 x.1.pid.author.toNat,.int .u16 x.1.pid.seq.toNat,.int .u8 x.1.n.toNat,.int .u8 x.2.pid.author.toNat,.int .u16 x.2.pid.seq.toNat,.int .u8 x.2.n.toNat] 133)=w7 at *;clear x0 x1 x2 x3 x4 x5 sx;have HM7:=Lh (HM.o.over HB7.o);have hb7:=bvo hbl.o HB7.o;have HS7:=Lh (HS3.o.over hb7);have HC7:=Lh (HC3.o.over hb7);have HO7:=Lh (HO3.o.over hb7);have HBl7:=Lh hb7;have hB7:=hb7.size;have hN7:((relE ls es).take k).length+1≤1099511627776:=by rw [List.length_take];omega
  clear hb7;obtain⟨y0,y1,y2,y3,y4,y5,sy⟩:=HA7.o.c6;refine wlo 11 fun hcur=>?_;repeat(first|refine lxq ?_|(refine lxl rfl ?_;go_wp2_with (first|(go_at_call 87;(first|(with_reducible refine(lat_any x.1 c s lp lc _ _ ls _ (HC7.o.arr.over hcur) (HS7.o.arr.over hcur) (HO7.o.row.over hcur) HRI.o HM1.o (by omega)).mono ?_)|(with_reducible refine(lat_any x.2 c s lp lc _ _ ls _ (HC7.o.arr.over hcur) (HS7.o.arr.over hcur) (HO7.o.row.over hcur) HRI.o HM2.o (by omega)).mono ?_));rintro e w' ⟨rfl,hb⟩;have hcur:=bvo hcur hb));refine⟨iov (by first|exact hcur|exact hcur.alloc hcur.size _),?_⟩))
  refine lxe ?_;have HM8:=Lh (HM7.o.over hcur);have HB8:=Lh (bvo HBl7.o hcur);have hB8:=HB8.o.size;clear hcur y0 y1 y2 y3 y4 y5 sy;go_wp2_with (at_builtin;refine apD slPair rfl _ _ rfl w3.heap.size _ _ (drf _) 1 _ _ _ HM8.o rfl rfl rfl rfl hN7 (by decide) hB8 ?_;intro v9 w9 ho9 hg9);go_roundw
  case rel=>exact⟨k+1,hlt,by go_num,Lh (take_snoc HX.o (GOwn.snoc ho9)),bgr HB8.o hB8 HM8.o hg9⟩
  simp [intOf];omega
 obtain rfl:k=(relE ls es).length:=by omega
 have hE:=HM.o;rw [List.take_length] at hE;have HE:=Lh hE;obtain⟨rp,rc,rfl,t1,t2,_⟩:=prow_at hE.row;unfold maxLen at t2;have HSr:=Lh (HS3.o.over hbl.o);have HCr:=Lh (HC3.o.over hbl.o);have HOr:=Lh (HO3.o.over hbl.o);clear hE HM;obtain⟨c0,sc⟩:=HCr.o.arr.c1;obtain⟨s0,ss⟩:=HSr.o.arr.c1;go_wp2_with fail;refine wlo 10 fun hcur=>?_;repeat(first|refine lxq ?_|(refine lxl rfl ?_;go_wp2_with (first|(go_at_call 92;(with_reducible refine(rchOf_any ls.length _ (relE ls es) _ (HE.o.row.over hcur) HLt.o hll (by omega)).mono ?_);rintro e w' ⟨r,rfl,hr,hrel,hkeep,hb⟩;have HRel:=Lh hrel;have hxs:wr.heap.size≤_:=hcur.size;have HKeep:=Lh hkeep;replace hcur:=bvo hcur hb;clear hb hrel hkeep hr));refine⟨iov hcur,?_⟩))
 refine lxe ?_;have HO9:=Lh (HOr.o.over hcur);have HS9:=Lh (HSr.o.over hcur);have HC9:=Lh (HCr.o.over hcur);have HB9:=Lh (bov (bvo HBB.o HB3.o) (Nat.le_trans HBB.o.size HB3.o.size) (bvo hbl.o hcur));rename World=>w9;clear hcur c0 sc s0 ss;have s1:=HS9.o.arr.k 1 rfl;have f1:=HS9.o.arr.free 1;have ss:=HS9.o.arr.lt;go_upto_region 10 with fail;have HSa:=Lh (HS9.o.set 1 (.pointer (some ⟨r,0,none⟩)));have HCa:=Lh (HC9.o.set_other (a:=⟨s,1,none⟩) (show c≠s from hcs) (.pointer (some ⟨r,0,none⟩)));have hga:=gsc (g:=s) w9 1 (.pointer (some ⟨r,0,none⟩));have HOa:=Lh (own_kept HO9.o hga (HS9.o.ne HO9.o (by decide)));have hsw9:s<wr.heap.size:=HSr.o.arr.lt;have HRa:=Lh (HKeep.o _ s (by omega) hga);have HGa:=Lh hga;have HBa:=Lh (HB9.o.setCell (p:=⟨s,1,none⟩) hs0 (.pointer (some ⟨r,0,none⟩)));simp only [List.set_cons_succ,List.set_cons_zero] at HSa;generalize w9.setCell ⟨s,1,none⟩ (.pointer (some ⟨r,0,none⟩))=wa at *;clear hga s1 f1 ss;obtain⟨c0,sc⟩:=HCa.o.arr.c1;have s1:=HSa.o.arr.k 1 rfl;have ss:=HSa.o.arr.lt;refine wlo 8 fun hcur=>?_;repeat(first|refine lxq ?_|(refine lxl rfl ?_;go_wp2_with (first|(go_at_call 93;(with_reducible refine(order_any r ls.length (relE ls es) _ (HRa.o.over hcur)).mono ?_);rintro e w' ⟨ov,rfl,hov,hb⟩;have HOV:=Lh hov;have hxs:=hcur.size;replace hcur:=bvo hcur hb;clear hb hov));refine⟨iov hcur,?_⟩))
 refine lxe ?_;rename World=>wd;obtain⟨op,oc,rfl⟩:=own_form HOV.o;rw [orderM_len];have HO4:=HOV.o;rw [orderM_len] at HO4;have HOq:=Lh HO4;have HSd:=Lh (HSa.o.over hcur);have HCd:=Lh (HCa.o.over hcur);have HLd:=Lh (HOa.o.over hcur);have HGd:=Lh (gtr HGa.o (grown_lift hcur (some s)));have HBd:=Lh (bvo HBa.o hcur);clear hcur HO4 HOV c0 sc s1 ss;have s2:=HSd.o.arr.k 2 rfl;have f2:=HSd.o.arr.free 2;have ss:=HSd.o.arr.lt;go_upto_region 11 with fail;have hge:=gsc (g:=s) wd 2 (.slice op ls.length oc);have HRe:=Lh (HKeep.o _ s (by omega) (gtr HGd.o hge));have HSe:=Lh (HSd.o.set 2 (.slice op ls.length oc));have HCe:=Lh (HCd.o.set_other (a:=⟨s,2,none⟩) (show c≠s from hcs) (.slice op ls.length oc));have HLe:=Lh (own_kept HLd.o hge (HSd.o.ne HLd.o (by decide)));have HOe:=Lh (own_kept HOq.o hge (HSd.o.ne HOq.o (by decide)));have HBe:=Lh (HBd.o.setCell (p:=⟨s,2,none⟩) hs0 (.slice op ls.length oc));generalize wd.setCell ⟨s,2,none⟩ (.slice op ls.length oc)=we at *;clear hge s2 f2 ss;obtain⟨c0,sc⟩:=HCe.o.arr.c1;go_wp2;go_ret;exact⟨s,rfl,hs0,⟨lp,lc,r,op,oc,HSe.o.arr,HLe.o.row,HRe.o,HOe.o.row⟩,HBe.o,lp,lc,_,_,HSe.o.arr,HLe.o.base HB.o.size⟩
theorem lofL_any(b:Nat)(L:List PatchM)(file:VidM)(w:World)(hg:GrIs w b L)(hw:WfG L)(hil:(idsM L).length≤65536)(hel:(edgesM L).length≤1000000) :
  Calls Tryz.prog 39 #[.pointer (some ⟨b,0,none⟩),vidV file] w (LofL w (linesM L file) (relM L file)):=by
 have hr:relE (linesM L file) (stepsM L file)=relM L file:=by unfold relE relM;rfl
 rw [← hr];exact lofL_gen (some ⟨b,0,none⟩) (linesM L file) (stepsM L file) file w (fun W h=>by have h9:=gof_any b L file 3 W (hg.over h) hw (by omega);rw [linesM_eq] at h9;exact h9) (fun W h=>gsteps_any b L file W (hg.over h) hel) (lines_few hil) (steps_few hel) (lines_rise hw file) (fun e he=>step_ends hw (wf_len hw) he) (by rw [hr];exact relM_lt hw (wf_len hw) file)
theorem lof_any(b:Nat)(L:List PatchM)(file:VidM)(w:World)(hg:GrIs w b L)(hw:WfG L)(hil:(idsM L).length≤65536)(hel:(edgesM L).length≤1000000) :
  Calls Tryz.prog 39 #[.pointer (some ⟨b,0,none⟩),vidV file] w (LofRes w (linesM L file) (relM L file)):=(lofL_any b L file w hg hw hil hel).mono fun _ _ ⟨s,h1,h2,h3,h4,_⟩=>⟨s,h1,h2,h3,h4⟩
end Go.Proofs.YtjccmcgglfncdaaGreatDoor
namespace Go.Proofs.YtjccmcgglfncdaaGreatDoor
open Go Go.RowKit
section
variable {P : Program} {t e : TypeId} {size bytes : Nat} {w : World} {o : Oper} {a : Act} {K : Act → World → Prop} {Q : Exit → Act → World → Prop}
end
theorem own_lit0(w:World)(e:TypeId)(sz B:Nat)(hB:B≤w.heap.size):(w.alloc (.cells #[] e)).ownsRow B e sz (.slice (some ⟨w.heap.size,0,none⟩) 0 0) 0 []:=
 World.ownsRow_lit w #[] 0 hB (Nat.zero_le _) (by simp)
theorem own_set{w:World}{B:Nat}{e:TypeId}{sz n:Nat}{v:Value}{xs:List Value}(h:w.ownsRow B e sz v n xs){k:Nat}(hk:v.ownBlock≠some k)(u:Value)(j:Nat):(w.setCell ⟨k,j,none⟩ u).ownsRow B e sz v n xs:=by
 obtain⟨h1,h2⟩:=h;refine⟨h1,?_⟩;rcases h2 with h2|⟨g,cap,cur,rfl,h3,hg,h4⟩
 · exact .inl h2
 refine .inr ⟨g,cap,cur,rfl,h3,?_,h4⟩;have hne:k≠g:=fun q=>hk (by rw [q];rfl);rw [← hg];unfold World.setCell;split <;> simp [Array.getElem?_modify,hne]
end Go.Proofs.YtjccmcgglfncdaaGreatDoor
namespace Go.Proofs.YtjccmcgglfncdaaGreatDoor
open Go Go.RowKit
section
variable{R:List (Nat × Nat)}{xs:List Nat}{l:List VertM}{i j n s:Nat}{w:World}
structure ShLook (w:World) (s:Nat) (l:List VertM) (R:List (Nat × Nat)) (lp:Option Addr) (lc r:Nat) (op:Option Addr) (oc:Nat):Prop where
 arr:Arr w s [.slice lp l.length lc,.pointer (some ⟨r,0,none⟩),.slice op l.length oc]
 row:GRow encVert 9 w (.slice lp l.length lc) l
 rel:RelAt w r l.length R
 ord:GRow encI 1 w (.slice op l.length oc) (orderM R l.length)
theorem ShAt.look(h:ShAt w s l R):∃ lp lc r op oc,ShLook w s l R lp lc r op oc:=by obtain⟨lp,lc,r,op,oc,h1,h2,h3,h4⟩:=h;exact⟨lp,lc,r,op,oc,h1,h2,h3,h4⟩
attribute [local irreducible] orderM
def ShRow(w:World)(s:Nat)(l:List VertM):Prop:=∃ lp lc v1 v2,Arr w s [.slice lp l.length lc,v1,v2]∧GRow encVert 9 w (.slice lp l.length lc) l
theorem ShRow.over{w':World}(h:ShRow w s l)(hb:Be w w'):ShRow w' s l:=by obtain⟨lp,lc,v1,v2,h1,h2⟩:=h;exact⟨lp,lc,v1,v2,h1.over hb,h2.over hb⟩
theorem ShAt.lines(h:ShAt w s l R):ShRow w s l:=by obtain⟨lp,lc,r,op,oc,h1,h2,_⟩:=h;exact⟨lp,lc,_,_,h1,h2⟩
theorem slenR_any(s:Nat)(l:List VertM)(w:World)(h:ShRow w s l):Calls Tryz.prog 222 #[.pointer (some ⟨s,0,none⟩)] w fun e w'=>e=.returned (.int .i64 l.length)∧w'=w:=by obtain⟨lp,lc,v1,v2,hL,_⟩:=h;obtain⟨s0,ss⟩:=hL.c1;clear hL;go_enter Tryz.func222,Tryz.ntmps222;go_wp2;go_ret;exact⟨rfl,rfl⟩
theorem slen_any(s:Nat)(l:List VertM)(R:List (Nat × Nat))(w:World)(h:ShAt w s l R):Calls Tryz.prog 222 #[.pointer (some ⟨s,0,none⟩)] w fun e w'=>e=.returned (.int .i64 l.length)∧w'=w:=slenR_any s l w h.lines
theorem srel_any(s:Nat)(l:List VertM)(R:List (Nat × Nat))(w:World)(h:ShAt w s l R):Calls Tryz.prog 117 #[.pointer (some ⟨s,0,none⟩)] w fun e w'=>(∃ r,e=.returned (.pointer (some ⟨r,0,none⟩))∧RelAt w r l.length R)∧w'=w:=by obtain⟨lp,lc,r,op,oc,hL⟩:=h.look;have s1:=hL.arr.k 1 rfl;have ss:=hL.arr.lt;have HR:=Lh hL.rel;clear h hL;go_enter Tryz.func117,Tryz.ntmps117;go_wp2;go_ret;exact⟨⟨r,rfl,HR.o⟩,rfl⟩
def SvRes(w:World)(x:VertM)(e:Ending)(w':World):Prop:=e=.returned (.tuple #[vertV x,.bool true])∧Be w w'
theorem svres_mk{w':World}{x:VertM}(h:Be w w'):SvRes w x (.returned (.tuple #[vertV x,.bool true])) w':=⟨rfl,h⟩
theorem svertR_any(s i:Nat)(x:VertM)(l:List VertM)(w:World)(h:ShRow w s l)(hx:l[i]? = some x):Calls Tryz.prog 149 #[.pointer (some ⟨s,0,none⟩),.int .i64 i] w (SvRes w x):=by
 have hi:=(List.getElem?_eq_some_iff.1 hx).1;have HH:=Lh (h.over (bnew (w:=w) (.cells #[.int .u8 0,.int .u16 0,.int .u8 0,.int .u8 0,.int .u8 0,.int .u16 0,.int .u8 0,.string ⟨#[]⟩,.bool false] 101)));have HR:=Lh (anw w #[.int .u8 0,.int .u16 0,.int .u8 0,.int .u8 0,.int .u8 0,.int .u16 0,.int .u8 0,.string ⟨#[]⟩,.bool false] 101);have HB:=Lh (bnew (w:=w) (.cells #[.int .u8 0,.int .u16 0,.int .u8 0,.int .u8 0,.int .u8 0,.int .u16 0,.int .u8 0,.string ⟨#[]⟩,.bool false] 101));have d1:decide ((l.length:Int)≤(i:Int))=false:=by simp;omega
 have d2:decide (l.length≤i)=false:=by simp;omega
 have HX:=Lh hx;clear h hx;go_enter Tryz.func149,Tryz.ntmps149;go_upto_region 1 with fail;generalize w.alloc (.cells #[.int .u8 0,.int .u16 0,.int .u8 0,.int .u8 0,.int .u8 0,.int .u16 0,.int .u8 0,.string ⟨#[]⟩,.bool false] 101)=w0 at *;go_wp2_with fail;refine(slenR_any s l _ HH.o).mono ?_;rintro e w1 ⟨rfl,hw⟩;obtain rfl:=hw.symm;obtain⟨lp,lc,v1,v2,hL,hL2⟩:=HH.o;obtain⟨s0,ss⟩:=hL.c1;obtain⟨a,cap,e1,z1,z2,hc⟩:=hL2.at encVert_len;cases e1
 obtain⟨b,off,rfl,sb,hcb⟩:=hc.resolve_left (by omega);have HRx:=Lh (hcb i x HX.o w0 (Below.refl _ _));obtain⟨x0,x1,x2,x3,x4,x5,x6,x7,x8,sx⟩:=rc9 HRx.o;unfold maxLen at z2;clear hcb hc hL hL2;go_wp2_with ((with_reducible show wpList _ _ _ ({dst:=_,op:=.store _ _ _,type:=_,pos:=_,after:=_,guard:=_} :: _) _ _);refine wpList_store_arr rowVert rfl _ _ rfl _ _ (encVert x) HR.o rfl rfl rfl rfl rfl ?_);exact bodyPost_ret (v:=.tuple #[vertV x,.bool true]) (rasl rowVert rfl (HR.o.row (encVert x)) rfl rfl rfl) rfl (svres_mk (below_setRow HB.o (Nat.le_refl _) _))
theorem svert_any(s i:Nat)(x:VertM)(l:List VertM)(R:List (Nat × Nat))(w:World)(h:ShAt w s l R)(hx:l[i]? = some x):Calls Tryz.prog 149 #[.pointer (some ⟨s,0,none⟩),.int .i64 i] w (SvRes w x):=svertR_any s i x l w h.lines hx
theorem iclone_any(v:Value)(xs:List Nat)(w:World)(hv:GRow encI 1 w v xs)(hl:xs.length≤1000000):Calls Tryz.prog 250 #[v] w (OwnRes encI 1 3 w xs):=by
 obtain⟨a,cap,rfl,h1,h2,hc⟩:=irow_at hv;unfold maxLen at h2;cases a with
 | none =>
  have h0:xs=[]:=by
   rcases hc with h0|⟨b,off,e,_⟩
   · exact List.eq_nil_of_length_eq_zero h0
   · cases e
  have HX:=Lh h0;have hl0:xs.length=0:=by rw [h0];rfl
  have hkn:=fun w=>Lib.run_eql_slice_nil (P:=Tryz.prog) w 160 3 none 0 cap 0 0 Tryz.underlying160;clear hv hc h0;go_enter Tryz.func250,Tryz.ntmps250;go_wp2;go_ret;exact⟨_,rfl,(by rw [HX.o];exact gown_nil _ _),Below.refl _ _⟩
 | some p =>
  have HV:=Lh hv;have hN:0+xs.length≤1099511627776:=by omega
  have hkn:=fun w=>Lib.run_eql_slice_nil (P:=Tryz.prog) w 160 3 (some p) xs.length cap 0 0 Tryz.underlying160;clear hv hc;go_enter Tryz.func250,Tryz.ntmps250;go_wp2_with (at_builtin;refine wpList_append_old slIntI rfl _ _ rfl w.heap.size (.slice (some ⟨w.heap.size,0,none⟩) 0 0) 0 [] (own_lit0 w _ 1 w.heap.size (Nat.le_refl _)) rfl (.slice (some p) xs.length cap) xs.length (xs.flatMap encI) (HV.o.over (bnew _)) rfl (oneInts xs) hN (by decide) (by simp) ?_;intro v9 w9 ho9 hg9;have HO9:=Lh (show GOwn encI 1 3 w9 w.heap.size v9 xs by(have:=ho9;rw [Nat.zero_add,List.nil_append] at this;exact this));have HB9:=Lh (bgr (bnew (w:=w) (.cells #[] 3)) (by simp) (own_lit0 w 3 1 w.heap.size (Nat.le_refl _)) hg9);clear ho9 hg9);go_ret;exact⟨_,rfl,HO9.o,HB9.o⟩
theorem sorder_any(s:Nat)(l:List VertM)(R:List (Nat × Nat))(w:World)(h:ShAt w s l R)(hl:l.length≤65536):Calls Tryz.prog 189 #[.pointer (some ⟨s,0,none⟩)] w (OwnRes encI 1 3 w (orderM R l.length)):=by
 obtain⟨lp,lc,r,op,oc,hL⟩:=h.look;have s2:=hL.arr.k 2 rfl;have ss:=hL.arr.lt;have HO:=Lh hL.ord;have hol:(orderM R l.length).length≤1000000:=by rw [orderM_len];omega
 clear h hL;go_enter Tryz.func189,Tryz.ntmps189;go_wp2_with fail;refine(iclone_any _ _ _ HO.o hol).mono ?_;rintro e w1 ⟨v,rfl,ho,hb⟩;have HO1:=Lh ho;have HB1:=Lh hb;clear ho hb;go_wp2;go_ret;exact⟨_,rfl,HO1.o,HB1.o⟩
def deadQL(l:List VertM)(i:Nat):Bool:=deadLine l i
def aliveQL(l:List VertM)(i:Nat):Bool := !deadLine l i
theorem deadQL_at{x:VertM}(h:l[i]? = some x):deadQL l i=x.dead:=by unfold deadQL deadLine;rw [h]
def keptI(l:List VertM)(xs:List Nat)(j:Nat):List Nat:=(xs.take j).filter (aliveQL l)
theorem keptI_yes{u:Nat}(h:xs[j]? = some u)(hd:deadQL l u=false):keptI l xs (j+1)=keptI l xs j++[u]:=by unfold keptI;rw [take_one h,List.filter_append];unfold deadQL at hd;simp [aliveQL,hd]
theorem keptI_no{u:Nat}(h:xs[j]? = some u)(hd:deadQL l u=true):keptI l xs (j+1)=keptI l xs j:=by unfold keptI;rw [take_one h,List.filter_append];unfold deadQL at hd;simp [aliveQL,hd]
theorem keptI_all(l:List VertM)(xs:List Nat):keptI l xs xs.length=xs.filter (aliveQL l):=by unfold keptI;rw [List.take_length]
theorem idxI_cases(l:List VertM)(xs:List Nat):(idxB (deadQL l) xs = -1∧xs.filter (aliveQL l)=xs)∨∃ k u,k<xs.length∧idxB (deadQL l) xs=(k:Int)∧xs[k]? = some u∧deadQL l u=true∧keptI l xs k=xs.take k:=by
 unfold idxB;cases h:xs.findIdx? (deadQL l) with
 | none =>rw [List.findIdx?_eq_none_iff] at h;exact .inl ⟨rfl,List.filter_eq_self.2 fun x hx=>by have:=h x hx;unfold deadQL at this;simp [aliveQL,this]⟩
 | some k =>rw [List.findIdx?_eq_some_iff_getElem] at h;obtain⟨hk,h1,h2⟩:=h;refine .inr ⟨k,xs[k],hk,rfl,List.getElem?_eq_getElem hk,h1,?_⟩;unfold keptI;refine List.filter_eq_self.2 fun x hx => ?_;obtain⟨j,hj,rfl⟩:=List.mem_iff_getElem.1 hx;rw [List.length_take] at hj;rw [List.getElem_take];have:=h2 j (by omega);unfold deadQL at this;simp [aliveQL];simpa using this
theorem ints_map(xs:List Nat):xs.flatMap encI=xs.map fun x:Nat=>Value.int .i64 x:=by
 induction xs with
 | nil=>rfl
 | cons x xs ih=>rw [List.flatMap_cons,ih];rfl
theorem ints_set(xs:List Nat)(k x:Nat):(xs.flatMap encI).set k (.int .i64 x)=(xs.set k x).flatMap encI:=by rw [ints_map,ints_map,List.map_set]
theorem ints_len(xs:List Nat):(xs.flatMap encI).length=xs.length:=by rw [ints_map,List.length_map]
theorem ints_get{k x:Nat}(h:xs[k]? = some x):(xs.flatMap encI)[k]? = some (.int .i64 x):=by rw [ints_map,List.getElem?_map,h];rfl
attribute [local irreducible] idxB deadQL aliveQL keptI
theorem aliveFn_any(c s i:Nat)(x:VertM)(l:List VertM)(R:List (Nat × Nat))(w:World)(hc:Arr w c [.pointer (some ⟨s,0,none⟩)])(h:ShAt w s l R)(hx:l[i]? = some x) :
  Calls Tryz.prog 190 #[.int .i64 i,.pointer (some ⟨c,0,none⟩)] w fun e w'=>e=.returned (.bool (deadQL l i))∧w'=w:=by
 have hi:=(List.getElem?_eq_some_iff.1 hx).1;have HV:=Lh (deadQL_at hx);obtain⟨lp,lc,r,op,oc,hL⟩:=h.look;obtain⟨c0,sc⟩:=hc.c1;obtain⟨s0,ss⟩:=hL.arr.c1;obtain⟨a,cap,e1,z1,z2,hcl⟩:=hL.row.at encVert_len;cases e1
 obtain⟨b,off,rfl,sb,hcb⟩:=hcl.resolve_left (by omega);unfold maxLen at z2;have x8:w.cell? ⟨b,off+i*9+8,none⟩=some (.bool x.dead):=(hcb i x hx w (Below.refl _ _)).2 8 _ rfl;clear h hL hcl hcb hx hc;go_enter Tryz.func190,Tryz.ntmps190;go_wp2;go_ret;exact⟨rvb HV.o,rfl⟩
theorem idxAl_any(v:Value)(xs:List Nat)(c s:Nat)(l:List VertM)(R:List (Nat × Nat))(w:World)(hv:GRow encI 1 w v xs)(hc:Arr w c [.pointer (some ⟨s,0,none⟩)])(h:ShAt w s l R)(hx:∀ i∈xs,i<l.length) :
  Calls Tryz.prog 249 #[v,.func (.func 190) #[] #[.pointer (some ⟨c,0,none⟩)]] w fun e w'=>e=.returned (.int .i64 (idxB (deadQL l) xs))∧w'=w:=by
 obtain⟨a,cap,rfl,h1,h2,hcr⟩:=irow_at hv;unfold maxLen at h2;have HC:=Lh hcr;have HS:=Lh h;have HA:=Lh hc;have HX:=Lh hx;clear hv hcr h hc hx;go_enter Tryz.func249,Tryz.ntmps249;go_wp2;go_loopw [8] (fun v8 wr=>∃ k:Nat,k≤xs.length∧v8=.int .i64 k∧Hid ((xs.take k).any (deadQL l)=false)∧wr=w) (fun v8 _=>xs.length - (intOf v8).toNat)
 case atStart=>exact⟨0,by omega,rfl,(by show _=_;simp),rfl⟩
 obtain⟨k,hk,rfl,HK,hw⟩:=hrel;obtain rfl:=hw
 by_cases hlt:k<xs.length
 rotate_left
 ·
  obtain rfl:k=xs.length:=by omega
  have HI:=Lh (idx_miss HK.o);go_wp2;go_ret;exact⟨ret_int HI.o.symm,rfl⟩
 obtain⟨b,off,rfl,sb,hcb⟩:=HC.o.resolve_left (by omega);obtain⟨u,hu⟩:=gol hlt;have u0:=(hcb k u hu _ (Below.refl _ _)).2;have HU:=Lh hu;obtain⟨x,hxu⟩:=gol (HX.o u (List.mem_of_getElem? hu));have HXu:=Lh hxu;clear hcb hu hxu;cases hf:deadQL l u with
 | true =>have HI:=Lh (idx_hit HK.o HU.o (f:=deadQL l) hf);have HV:=Lh hf;clear hf;go_wp2_with fail;refine(aliveFn_any c s u x l R _ HA.o HS.o HXu.o).mono ?_;rintro e w1 ⟨rfl,hw⟩;obtain rfl:=hw.symm;rw [HV.o];go_wp2;go_ret;exact⟨ret_int HI.o.symm,rfl⟩
 | false =>
  have HI:=Lh (any_step HK.o HU.o (f:=deadQL l) hf);have HV:=Lh hf;clear hf;go_wp2_with fail;refine(aliveFn_any c s u x l R _ HA.o HS.o HXu.o).mono ?_;rintro e w1 ⟨rfl,hw⟩;obtain rfl:=hw.symm;rw [HV.o];go_wp2;go_roundw
  case rel=>exact⟨k+1,hlt,by go_num,HI,(by first|exact rfl|trivial)⟩
  simp [intOf];omega
def DelIRes(w:World)(B:Nat)(v:Value)(l:List VertM)(xs:List Nat)(e:Ending)(w':World):Prop:=∃ v',e=.returned v'∧GOwn encI 1 3 w' B v' (xs.filter (aliveQL l))∧w.grownBy w' v.ownBlock
def DelIRel(w:World)(B g cap:Nat)(l:List VertM)(xs:List Nat)(v5 v6:Value)(wr:World):Prop:=
 ∃(m j:Nat) (zs:List Nat),j≤xs.length∧m<j∧v5=.int .i64 m∧v6=.int .i64 j∧zs.length=xs.length∧Hid (zs.take m=keptI l xs j)∧Hid (∀ i,j≤i→zs[i]? = xs[i]?) ∧
  Hid (OwnAt wr B 3 1 g xs.length cap (zs.flatMap encI))∧Hid (w.grownBy wr (some g))
theorem zero_intI:((Tryz.prog.info? 3).bind (·.zero))=some (.int .i64 0):=by kernel_rfl
theorem delAl_any{B:Nat}{v:Value}(c s:Nat)(l:List VertM)(R:List (Nat × Nat))(h:GOwn encI 1 3 w B v xs)(hn:xs.length≤1000000)(hc:Arr w c [.pointer (some ⟨s,0,none⟩)])(hS:ShAt w s l R)(hx:∀ i∈xs,i<l.length)
  (hne:∀ w',w.grownBy w' v.ownBlock→Arr w' c [.pointer (some ⟨s,0,none⟩)]∧ShAt w' s l R) :
  Calls Tryz.prog 188 #[v,.func (.func 190) #[] #[.pointer (some ⟨c,0,none⟩)]] w (DelIRes w B v l xs):=by
 have HO:=Lh h;have hcon:=idxAl_any v xs c s l R w h.row hc hS hx;have HX:=Lh hx;have HNE:=Lh hne;rcases idxI_cases l xs with⟨hi,hf⟩|⟨k0,u0,hk0,hi,hu0,hd0,hkp⟩
 · rw [hi] at hcon;have HF:=Lh hf;clear h hi hf hc hS hx hne;go_enter Tryz.func188,Tryz.ntmps188;go_wp2_with fail;refine hcon.mono ?_;rintro e w1 ⟨rfl,hw⟩;obtain rfl:=hw.symm;clear hcon;go_wp2;go_ret;exact⟨_,rfl,(by rw [HF.o];exact HO.o),World.grownBy.refl _ _⟩
 rw [hi] at hcon;obtain⟨g,cap,rfl,hA⟩:=own_at (show World.ownsRow _ _ _ _ _ _ _ from h) (by omega);have HA:=Lh hA;have hnc:=hA.nc;have hcm:=hA.cm;unfold maxLen at hcm;have hg:=hA.lt;have HK0:Hid (xs.take k0=keptI l xs (k0+1)):=by show _=_;rw [keptI_no hu0 hd0,hkp]
 clear h hi hA hu0 hd0 hkp hc hS hx hne;go_enter Tryz.func188,Tryz.ntmps188;go_wp2_with fail;refine hcon.mono ?_;rintro e w1 ⟨rfl,hw⟩;obtain rfl:=hw.symm;have d0:((k0:Int) == -1)=false:=by simp <;> omega
 clear hcon;go_wp2;go_loopw [5,6] (fun v5 v6 wr=>DelIRel w B g cap l xs v5 v6 wr) (fun _ v6 _=>xs.length - (intOf v6).toNat)
 case atStart=>exact⟨k0,k0+1,xs,hk0,Nat.lt_succ_self _,rfl,by go_num,rfl,HK0,Lh (fun _ _=>rfl),HA,World.grownBy.refl _ _⟩
 obtain⟨m,j,zs,hj,hm,rfl,rfl,hz,HT,HJ,HI,HG⟩:=hrel;rename World=>wr;have sI:=HI.o.lt;have HNr:=Lh (HNE.o wr HG.o)
 by_cases hlt:j<xs.length
 rotate_left
 ·
  obtain rfl:j=xs.length:=by omega
  have HE:Hid (zs.take m=xs.filter (aliveQL l)):=by show _=_;rw [HT.o,keptI_all]
  have hlen:(xs.filter (aliveQL l)).length=m:=by rw [← HE.o,List.length_take];omega
  have HL:=Lh hlen;have HTk:=Lh (HI.o.take (k:=m) (by omega));have hcm2:¬ cap=m:=by omega
  have HF:Hid ((zs.flatMap encI).take (m*1)=(xs.filter (aliveQL l)).flatMap encI):=by show _=_;rw [← HE.o,Nat.mul_one,ints_map,ints_map,List.map_take]
  clear hlen;go_wp2_with (refine wpList_clear_at slIntI _ zero_intI (zero_one (fun u hu=>by simp [Value.cells] at hu;subst hu;rfl)) (fun k=>by rw [size_zeroCells];rfl) rfl _ rfl B g m cap _ HTk.o m _ _ _ (by omega) rfl (Nat.le_refl _) (by omega) ?_;intro w3 hA3 hg3 hs3);go_ret;refine⟨_,rfl,?_,gtr HG.o hg3⟩;show World.ownsRow _ _ _ _ _ _ _;rw [HL.o,← HF.o];exact hA3.own
 obtain⟨u,hu⟩:=gol hlt;have hu2:zs[j]? = some u:=(HJ.o j (Nat.le_refl _)).trans hu;have HU:=Lh hu;have u0:wr.cell? ⟨g,j,none⟩=some (.int .i64 u):=HI.o.cell (ints_get hu2);obtain⟨x,hxu⟩:=gol (HX.o u (List.mem_of_getElem? hu));have HXu:=Lh hxu;clear hu hu2 hxu;cases hf:deadQL l u with
 | true =>
  have HV:=Lh hf;have HK:=Lh (keptI_no HU.o hf);clear hf;go_wp2_with fail;refine(aliveFn_any c s u x l R _ HNr.o.1 HNr.o.2 HXu.o).mono ?_;rintro e w8 ⟨rfl,hw⟩;obtain rfl:=hw.symm;rw [HV.o];go_wp2;go_roundw
  case rel=>exact⟨m,j+1,zs,hlt,by omega,rfl,by go_num,hz,(by show _=_;rw [HK.o];exact HT.o),Lh (fun i hi=>HJ.o i (by omega)),HI,HG⟩
  simp [intOf];omega
 | false =>
  have HV:=Lh hf;have HK:=Lh (keptI_yes HU.o hf);have hml:m<zs.length:=by omega
  obtain⟨y,hy⟩:=gol hml;have m0:wr.cell? ⟨g,m,none⟩=some (.int .i64 y):=HI.o.cell (ints_get hy);have mf:=HI.o.free m;clear hf hy;go_wp2_with fail;refine(aliveFn_any c s u x l R _ HNr.o.1 HNr.o.2 HXu.o).mono ?_;rintro e w8 ⟨rfl,hw⟩;obtain rfl:=hw.symm;rw [HV.o];go_wp2;go_roundw
  case rel=>exact⟨m+1,j+1,zs.set m u,hlt,by omega,by go_num,by go_num,by simpa using hz,(by show _=_;rw [take_set_end hml,HK.o,HT.o]),Lh (fun i hi=>by rw [List.getElem?_set,if_neg (by omega)];exact HJ.o i (by omega)),Lh (by rw [← ints_set];exact HI.o.setCell m (by rw [ints_len];exact hml) _),Lh (gtr HG.o (gsc _ _ _))⟩
  simp [intOf];omega
def SaRes(w:World)(l:List VertM)(R:List (Nat × Nat)):Ending→World→Prop:=OwnRes encI 1 3 w ((orderM R l.length).filter (aliveQL l))
theorem order_lt(h:i∈orderM R n):i<n:=by unfold orderM at h;exact(orderTo_whole R n n).lt i h
theorem salive_any(s:Nat)(l:List VertM)(R:List (Nat × Nat))(w:World)(h:ShAt w s l R)(hl:l.length≤65536):Calls Tryz.prog 118 #[.pointer (some ⟨s,0,none⟩)] w (SaRes w l R):=by
 have HS:=Lh (h.over (bnew (w:=w) (.cells #[.pointer (some ⟨s,0,none⟩)] 90)));have HC:=Lh (arrT_new w [.pointer (some ⟨s,0,none⟩)] 90);have HB:=Lh (bnew (w:=w) (.cells #[.pointer (some ⟨s,0,none⟩)] 90));have hC:=HC.o;have HC2:=Lh (show Arr (w.alloc (.cells #[.pointer (some ⟨s,0,none⟩)] 90)) w.heap.size [.pointer (some ⟨s,0,none⟩)] from hC.arr);clear h hC HC;go_enter Tryz.func118,Tryz.ntmps118;go_upto_region 1 with fail;generalize w.alloc (.cells #[.pointer (some ⟨s,0,none⟩)] 90)=w0 at *;obtain⟨c0,sc⟩:=HC2.o.c1;go_wp2_with fail;refine(sorder_any s l R _ HS.o hl).mono ?_;rintro e w1 ⟨v,rfl,ho,hb⟩;have HO:=Lh ho;have HB1:=Lh hb;have hol:(orderM R l.length).length≤1000000:=by rw [orderM_len];omega
 have hbk:∀ k,v.ownBlock=some k→w0.heap.size≤k:=fun k hk=>gown_low ho hk;have HBK:=Lh hbk;clear ho hb c0 sc hbk;go_wp2_with fail;refine(delAl_any w.heap.size s l R HO.o hol (HC2.o.over HB1.o) (HS.o.over HB1.o) (fun i hi=>order_lt hi) (fun w' hg => ?_)).mono ?_
 · have hb2:Be w0 w':=HB1.o.grown hg HB1.o.size HBK.o;exact⟨HC2.o.over hb2,HS.o.over hb2⟩
 rintro e w2 ⟨v',rfl,ho2,hg2⟩;have HO2:=Lh (ho2.base HB.o.size);have HB2:=Lh (bvo HB.o (HB1.o.grown hg2 HB1.o.size HBK.o));clear ho2 hg2;go_wp2;go_ret;exact⟨_,rfl,HO2.o,HB2.o⟩
open Classical in
noncomputable def firmB(R:List (Nat × Nat))(n i:Nat):Bool:=decide (FirmP R n i)
theorem firmB_iff:firmB R n i=true↔FirmP R n i:=by unfold firmB;simp
theorem firmB_yes(hi:i<n)(h:∀ j,j<n→j≠i→aliB R i j=false):firmB R n i=true:=
 firmB_iff.2 ⟨hi,fun j hj hne ha=>by have:=h j hj hne;rw [aliB_iff.2 ha] at this;cases this⟩
theorem firmB_no(hj:j<n)(hne:j≠i)(h:aliB R i j=true):firmB R n i=false:=by
 cases hf:firmB R n i with
 | false=>rfl
 | true=>exact absurd (aliB_iff.1 h) ((firmB_iff.1 hf).2 j hj hne)
attribute [local irreducible] firmB aliB
theorem sfirm_any(s i:Nat)(l:List VertM)(R:List (Nat × Nat))(w:World)(h:ShAt w s l R)(hi:i<l.length)(hl:l.length≤65536):Calls Tryz.prog 277 #[.pointer (some ⟨s,0,none⟩),.int .i64 i] w fun e w'=>e=.returned (.bool (firmB R l.length i))∧w'=w:=by
 have HS:=Lh h;obtain⟨lp,lc,r,op,oc,hL⟩:=h.look;obtain⟨s0,s1,ss⟩:=hL.arr.c2;have HR:=Lh hL.rel;have d1:decide ((l.length:Int)≤(i:Int))=false:=by simp;omega
 have d2:decide (l.length≤i)=false:=by simp;omega
 clear h hL;go_enter Tryz.func277,Tryz.ntmps277;go_wp2_with fail;refine(slen_any s l R _ HS.o).mono ?_;rintro e w1 ⟨rfl,hw⟩;obtain rfl:=hw.symm;go_wp2;go_loopw [19] (fun v19 wr=>∃ j:Nat,j≤l.length∧v19=.int .i64 j∧Hid (∀ k,k<j→k≠i→aliB R i k=false)∧wr=w) (fun v19 _=>l.length - (intOf v19).toNat)
 case atStart=>exact⟨0,by omega,rfl,Lh (fun k hk=>absurd hk (Nat.not_lt_zero k)),rfl⟩
 obtain⟨j,hj,rfl,HM,hw⟩:=hrel;obtain rfl:=hw
 by_cases hlt:j<l.length
 rotate_left
 ·
  obtain rfl:j=l.length:=by omega
  have HF:=Lh (firmB_yes hi HM.o);go_wp2;go_ret;exact⟨rvb HF.o,rfl⟩
 by_cases he:j=i
 ·
  have e1:((j:Int) == (i:Int))=true:=by simp [he]
  have e2:((j:Int) != (i:Int))=false:=by simp [he]
  have HN:Hid (∀ k,k<j+1→k≠i→aliB R i k=false):=fun k hk hne=>by
   rcases Nat.lt_or_ge k j with hl|hl
   · exact HM.o k hl hne
   exact absurd (show k=i by omega) hne
  clear he;go_wp2;go_roundw
  case rel=>exact⟨j+1,hlt,by go_num,HN,(by first|exact rfl|trivial)⟩
  simp [intOf];omega
 have e1:((j:Int) == (i:Int))=false:=by simp;omega
 have e2:((j:Int) != (i:Int))=true:=by simp;omega
 cases ha:aliB R i j with
 | true =>have HV:=Lh ha;have HF:=Lh (firmB_no hlt he ha);clear ha he;go_wp2_with fail;refine(rchAlike_any r l.length i j R _ HR.o hi hl (by omega)).mono ?_;rintro e w2 ⟨rfl,hw⟩;obtain rfl:=hw.symm;rw [HV.o];go_wp2;go_ret;exact⟨rvb HF.o,rfl⟩
 | false =>
  have HV:=Lh ha;have HN:Hid (∀ k,k<j+1→k≠i→aliB R i k=false):=fun k hk hne=>by
   rcases Nat.lt_or_ge k j with hl|hl
   · exact HM.o k hl hne
   obtain rfl:k=j:=(by omega);exact HV.o
  clear ha he;go_wp2_with fail;refine(rchAlike_any r l.length i j R _ HR.o hi hl (by omega)).mono ?_;rintro e w2 ⟨rfl,hw⟩;obtain rfl:=hw.symm;rw [HV.o];go_wp2;go_roundw
  case rel=>exact⟨j+1,hlt,by go_num,HN,(by first|exact rfl|trivial)⟩
  simp [intOf];omega
end
section
variable{R:List (Nat × Nat)}{l:List VertM}{i k:Nat}
noncomputable def aliveX(l:List VertM)(R:List (Nat × Nat)):List Nat:=(orderM R l.length).filter (aliveQL l)
noncomputable def firmX(l:List VertM)(R:List (Nat × Nat)):List Nat:=(aliveX l R).filter (firmB R l.length)
theorem aliveX_lt(h:i∈aliveX l R):i<l.length:=order_lt (List.mem_filter.1 h).1
theorem aliveX_len(l:List VertM)(R:List (Nat × Nat)):(aliveX l R).length≤l.length:=by have:=List.length_filter_le (aliveQL l) (orderM R l.length);rw [orderM_len] at this;exact this
theorem firmX_lt(h:i∈firmX l R):i<l.length:=aliveX_lt (List.mem_filter.1 h).1
theorem firmX_len(l:List VertM)(R:List (Nat × Nat)):(firmX l R).length≤l.length:=Nat.le_trans (List.length_filter_le _ _) (aliveX_len l R)
noncomputable def firmTo(l:List VertM)(R:List (Nat × Nat))(k:Nat):List Nat:=((aliveX l R).take k).filter (firmB R l.length)
theorem firmTo_zero(l:List VertM)(R:List (Nat × Nat)):firmTo l R 0=[]:=rfl
theorem firmTo_all(l:List VertM)(R:List (Nat × Nat)):firmTo l R (aliveX l R).length=firmX l R:=by unfold firmTo firmX;rw [List.take_length]
theorem firmTo_yes(h:(aliveX l R)[k]? = some i)(hf:firmB R l.length i=true):firmTo l R (k+1)=firmTo l R k++[i]:=by unfold firmTo;rw [take_one h,List.filter_append];simp [hf]
theorem firmTo_no(h:(aliveX l R)[k]? = some i)(hf:firmB R l.length i=false):firmTo l R (k+1)=firmTo l R k:=by unfold firmTo;rw [take_one h,List.filter_append];simp [hf]
theorem firmTo_len(l:List VertM)(R:List (Nat × Nat))(k:Nat):(firmTo l R k).length≤l.length:=by unfold firmTo;refine Nat.le_trans (List.length_filter_le _ _) ?_;rw [List.length_take];exact Nat.le_trans (Nat.min_le_right _ _) (aliveX_len l R)
theorem sares_is(w:World)(l:List VertM)(R:List (Nat × Nat)):SaRes w l R=OwnRes encI 1 3 w (aliveX l R):=rfl
def FmRel(w1:World)(l:List VertM)(R:List (Nat × Nat))(v3 v9:Value)(wr:World):Prop:=∃ k:Nat,k≤(aliveX l R).length∧v9=.int .i64 k∧Hid (GOwn encI 1 3 wr w1.heap.size v3 (firmTo l R k))∧Hid (Be w1 wr)
attribute [local irreducible] aliveX firmX firmTo firmB
def encS1(t:ByteArray):List Value:=[.string t]
theorem encS1_len(t:ByteArray):(encS1 t).length=1:=rfl
theorem slStrE:SlT Tryz.prog 69 9 1 16:=slT_of Tryz.underlying69 (by kernel_rfl) (by decide)
theorem srow_of{w:World}{v:Value}{xs:List ByteArray}(h:GRow encS1 1 w v xs):SRow w v xs:=by
 have e:xs.flatMap encS1=xs.map Value.string:=by
  clear h;induction xs with
  | nil=>rfl
  | cons x xs ih=>rw [List.flatMap_cons,ih];rfl
 unfold GRow at h;rw [e] at h;exact h
def textAt(l:List VertM)(i:Nat):ByteArray:=(l.getD i noVert).text
theorem textAt_get{x:VertM}(h:l[i]? = some x):textAt l i=x.text:=by unfold textAt;rw [getD_of h]
def textsTo(l:List VertM)(is':List Nat)(k:Nat):List ByteArray:=(is'.take k).map (textAt l)
theorem textsTo_zero(l:List VertM)(is':List Nat):textsTo l is' 0=[]:=rfl
theorem textsTo_succ{is':List Nat}(h:is'[k]? = some i):textsTo l is' (k+1)=textsTo l is' k++[textAt l i]:=by unfold textsTo;rw [take_one h,List.map_append];rfl
theorem textsTo_all(l:List VertM)(is':List Nat):textsTo l is' is'.length=is'.map (textAt l):=by unfold textsTo;rw [List.take_length]
theorem textsTo_len(l:List VertM)(is':List Nat)(k:Nat):(textsTo l is' k).length≤is'.length:=by unfold textsTo;rw [List.length_map,List.length_take];omega
def TxRel(w:World)(l:List VertM)(is':List Nat)(v5 v12:Value)(wr:World):Prop:=∃ k:Nat,k≤is'.length∧v12=.int .i64 k∧Hid (GOwn encS1 1 9 wr w.heap.size v5 (textsTo l is' k))∧Hid (Be w wr)
attribute [local irreducible] textAt textsTo
end
section
def keptV1(ks:List Int):List Value:=ks.map fun x:Int=>.int .i64 x
theorem keptV1_get{ks:List Int}{k:Nat}{x:Int}(h:ks[k]? = some x):(keptV1 ks)[k]? = some (.int .i64 x):=by unfold keptV1;rw [List.getElem?_map,h];rfl
theorem keptV1_set(ks:List Int)(k:Nat)(x:Int):(keptV1 ks).set k (.int .i64 x)=keptV1 (ks.set k x):=by unfold keptV1;rw [List.map_set]
def minus(j m:Nat):List Int:=(List.range m).map fun k=>if k<j then -1 else 0
theorem minus_len(j m:Nat):(minus j m).length=m:=by unfold minus;simp
theorem minus_get{j m k:Nat}(h:k<m):(minus j m)[k]? = some (if k<j then -1 else 0):=by unfold minus;simp [h]
theorem minus_zero(m:Nat):keptV1 (minus 0 m)=List.replicate m (.int .i64 0):=by unfold keptV1 minus;simp [List.map_const']
theorem minus_all(m:Nat):minus m m=List.replicate m (-1):=by
 refine List.ext_getElem? fun k => ?_
 by_cases h:k<m
 · rw [minus_get h,List.getElem?_replicate,if_pos h,if_pos h]
 rw [List.getElem?_eq_none (by rw [minus_len];omega),List.getElem?_eq_none (by simp;omega)]
theorem minus_set{j m:Nat}(h:j<m):(minus j m).set j (-1)=minus (j+1) m:=by
 refine List.ext_getElem? fun k => ?_;rw [List.getElem?_set,minus_len]
 by_cases hk:k<m
 ·
  rw [minus_get hk,minus_get hk];rcases Nat.lt_trichotomy k j with q|q|q
  · rw [if_neg (by omega),if_pos q,if_pos (by omega)]
  · subst q;simp [hk]
  rw [if_neg (by omega),if_neg (by omega),if_neg (by omega)]
 rw [if_neg (by omega),List.getElem?_eq_none (by rw [minus_len];omega),List.getElem?_eq_none (by rw [minus_len];omega)]
theorem slzIntE:SlZ Tryz.prog 160 3 (.int .i64 0) 8:=slZ_of Tryz.underlying160 (by kernel_rfl) rfl
def KpRes(w:World)(ks:List Int)(e:Ending)(w':World):Prop:=∃ g,e=.returned (.slice (some ⟨g,0,none⟩) ks.length ks.length)∧w.heap.size≤g∧ArrT w' g 3 (keptV1 ks)∧Be w w'
def K1Rel(w:World)(g m:Nat)(v15:Value)(wr:World):Prop:=∃ j:Nat,j≤m∧v15=.int .i64 j∧Hid (ArrT wr g 3 (keptV1 (minus j m)))∧Hid (Be w wr)
def K2Rel(w w4:World)(g m:Nat)(firm:List Nat)(ps:List (Nat × Nat))(v30:Value)(wr:World):Prop:=∃ k:Nat,k≤ps.length∧v30=.int .i64 k∧Hid (ArrT wr g 3 (keptV1 (keptTo firm (ps.take k) m)))∧Hid (w4.grownBy wr (some g))∧Hid (Be w wr)
theorem kp_zero(firm:List Nat)(ps:List (Nat × Nat))(m:Nat):minus m m=keptTo firm (ps.take 0) m:=by rw [minus_all,kept_zero]
theorem texts_len(l:List VertM)(is':List Nat):(is'.map (textAt l)).length=is'.length:=List.length_map ..
attribute [local irreducible] keptV1 minus keptTo textAt firmX
end
variable{x:Int}{ks:List Int}
theorem numV_inj(x y:Int)(h:numV x=numV y):x=y:=by unfold numV at h;cases h;rfl
theorem zero_numV(u:World):(zeroValue 3).run Tryz.prog u=.ok (numV 0) u:=by kernel_rfl
def hereF(ks:List Int)(k:Nat):Int→Option Int:=fun x=>if x∈ks.take k then some 1 else none
theorem hereF_zero(ks:List Int):hereF ks 0=fun _=>none:=by funext x;simp [hereF]
theorem hereF_succ{k:Nat}(h:ks[k]? = some x):updM (hereF ks k) x 1=hereF ks (k+1):=by
 funext y;have e:(y∈ks.take (k+1))↔(y∈ks.take k∨y=x):=by rw [take_one h];simp
 unfold updM hereF
 by_cases h1:y=x
 · rw [if_pos h1,if_pos (e.2 (.inr h1))]
 by_cases h2:y∈ks.take k
 · rw [if_neg h1,if_pos h2,if_pos (e.2 (.inl h2))]
 rw [if_neg h1,if_neg h2,if_neg (fun q=>(e.1 q).elim h2 h1)]
theorem hereF_yes(h:ks.contains x=true):numV ((hereF ks ks.length x).getD 0)=.int .i64 1:=by unfold hereF;rw [List.take_length,if_pos (by simpa using h)];rfl
theorem hereF_no(h:ks.contains x=false):numV ((hereF ks ks.length x).getD 0)=.int .i64 0:=by unfold hereF;rw [List.take_length,if_neg (by simpa using h)];rfl
theorem killV5_at{l:List VertM}{i:Nat}{x:VertM}(h:l[i]? = some x):killV5 l i=⟨5,x.id,noVid,⟨#[]⟩⟩:=by unfold killV5;rw [getD_of h]
def I1Rel(w0:World)(m:Nat)(ks:List Int)(v16:Value)(wr:World):Prop:=∃ k N:Nat,k≤ks.length∧N≤k∧v16=.int .i64 k∧Hid (TMap Tryz.prog 3 numV okInt numV wr m N (hereF ks k))∧Hid (Be w0 wr)
def I2Rel(w1:World)(l:List VertM)(al:List Nat)(ks:List Int)(v8 v26:Value)(wr:World):Prop:=∃ k:Nat,k≤al.length∧v26=.int .i64 k∧Hid (GOwn encOp 8 76 wr w1.heap.size v8 (killsE l (al.take k) ks))∧Hid (Be w1 wr)
attribute [local irreducible] hereF killsE keptV1 aliveX killV5
end Go.Proofs.YtjccmcgglfncdaaGreatDoor
set_option maxRecDepth 100000
set_option maxHeartbeats 40000000
namespace Go.Proofs.YtjccmcgglfncdaaGreatDoor
open Go Go.RowKit
variable{xs:List VertM}{B:Nat}
section
variable {P : Program} {ty : TypeId} {size : Nat} {w : World} {ops : Array Oper} {rest : List Oper} {o : Oper} {a : Act} {Q : Exit → Act → World → Prop}
theorem wpList_store_own(T:RowT P ty size)(hgd:o.guard=none)(x y:Operand)(ho:o.op=.store ty x y){e:TypeId}{sz g n cap:Nat}{xs:List Value}(hA:OwnAt w B e sz g n cap xs)(k:Nat)(new:List Value)
  (hx:a.eval x=.pointer (some ⟨g,k,none⟩)) (hy:a.eval y=.agg new.toArray) (hn:new.length=size) (hk:k+new.length≤n*sz) (h1:∀ u∈new,u.oneCell'=true)
  (h:∀ w',OwnAt w' B e sz g n cap (xs.take k++new++xs.drop (k+new.length))→w.grownBy w' (some g)→w'.heap.size=w.heap.size→wpList P ops Q rest (a.put o.dst undef) w'):wpList P ops Q (o :: rest) a w:=by
 refine wpList_plain hgd fun K hK => ?_;obtain⟨d,i,_,_,h3,h4⟩:=T.out;obtain⟨w',hs,r1,r2,r3⟩:=hA.put (P:=P) h1 hk;have hc:(Value.agg new.toArray).cells=new.toArray:=rfl;have hr:(storeVar ty ⟨g,k,none⟩ (.agg new.toArray)).run P w=.ok () w':=by simp [storeVar,sizeOf,typeInfo,h3,h4,hc,hn,hs]
 unfold Oper.wp execOp;simp only [ho,hx,hy,Instr.storeAt,Instr.sureAddr,Sem.run_bind,Sem.run_pure,Result.andThen_ok,hr];exact hK _ _ (h w' r1 r2 r3)
end
theorem oneZ_Vert:∀ u∈((.agg #[.int .u8 0,.int .u16 0,.int .u8 0,.int .u8 0,.int .u8 0,.int .u16 0,.int .u8 0,.string ⟨#[]⟩,.bool false]:Value).cells).toList,u.oneCell'=true:=List.all_eq_true.1 rfl
theorem zero_Vert:((Tryz.prog.info? 101).bind (·.zero))=some (.agg #[.int .u8 0,.int .u16 0,.int .u8 0,.int .u8 0,.int .u8 0,.int .u16 0,.int .u8 0,.string ⟨#[]⟩,.bool false]):=by kernel_rfl
theorem deadFn_any(x:VertM)(w:World):Calls Tryz.prog 139 #[vertV x] w fun e w'=>e=.returned (.bool x.dead)∧Be w w':=by have HX:=Lh (anw w (cX x) 101);have HB:=Lh (bnew (w:=w) (.cells (cX x) 101));unfold vertV;go_enter Tryz.func139,Tryz.ntmps139;go_upto_region 1 with fail;generalize w.alloc (.cells (cX x) 101)=w0 at *;obtain⟨c0,c1,c2,c3,c4,c5,c6,c7,c8,sc⟩:=HX.o.c9;go_wp2;go_ret;exact⟨rfl,HB.o⟩
def deadQ(x:VertM):Bool:=x.dead
def IdRes(w:World)(xs:List VertM)(e:Ending)(w':World):Prop:=e=.returned (.int .i64 (idxB deadQ xs))∧Be w w'
attribute [local irreducible] idxB
theorem idxDead_any(v:Value)(xs:List VertM)(w:World)(hv:GRow encVert 9 w v xs)(hl:xs.length≤1000000) :
  Calls Tryz.prog 213 #[v,.func (.func 139) #[] #[]] w (IdRes w xs):=by
 obtain⟨a,cap,rfl,h1,h2,hc⟩:=hv.at encVert_len;unfold maxLen at h2;have HC:=Lh hc;clear hv hc;go_enter Tryz.func213,Tryz.ntmps213;go_wp2;go_loopw [8] (fun v8 wr=>∃ k:Nat,k≤xs.length∧v8=.int .i64 k∧Hid ((xs.take k).any deadQ=false)∧Be w wr) (fun v8 _=>xs.length - (intOf v8).toNat)
 case atStart=>exact⟨0,by omega,rfl,(by show _=_;simp),Below.refl _ _⟩
 obtain⟨k,hk,rfl,HK,hbl⟩:=hrel;rename World=>wr
 by_cases hlt:k<xs.length
 rotate_left
 ·
  obtain rfl:k=xs.length:=by omega
  have HI:=Lh (idx_miss HK.o);go_wp2;go_ret;exact⟨ret_int HI.o.symm,hbl⟩
 obtain⟨b,off,rfl,sb,hcb⟩:=HC.o.resolve_left (by omega);obtain⟨u,hu⟩:=gol hlt;have HU:=Lh (hcb k u hu wr hbl);obtain⟨u0,u1,u2,u3,u4,u5,u6,u7,u8,su⟩:=rc9 HU.o;have HX:=Lh hu;clear hcb hu;go_wp2_with fail;refine(deadFn_any u _).mono ?_;rintro e w1 ⟨rfl,hb1⟩;have HB1:=Lh (bvo hbl hb1);clear hb1 u0 u1 u2 u3 u4 u5 u6 u7 u8 su;cases hf:u.dead with
 | true =>have HI:=Lh (idx_hit HK.o HX.o (f:=deadQ) hf);clear hf;go_wp2;go_ret;exact⟨ret_int HI.o.symm,HB1.o⟩
 | false =>
  have HI:=Lh (any_step HK.o HX.o (f:=deadQ) hf);clear hf;go_wp2;go_roundw
  case rel=>exact⟨k+1,hlt,by go_num,HI,HB1.o⟩
  simp [intOf];omega
def aliveQ(x:VertM):Bool := !x.dead
def keptV(xs:List VertM)(j:Nat):List VertM:=(xs.take j).filter aliveQ
theorem kept_yes{j:Nat}{u:VertM}(h:xs[j]? = some u)(hd:u.dead=false):keptV xs (j+1)=keptV xs j++[u]:=by unfold keptV;rw [take_succ' h,List.filter_append];simp [aliveQ,hd]
theorem kept_no{j:Nat}{u:VertM}(h:xs[j]? = some u)(hd:u.dead=true):keptV xs (j+1)=keptV xs j:=by unfold keptV;rw [take_succ' h,List.filter_append];simp [aliveQ,hd]
theorem kept_all(xs:List VertM):keptV xs xs.length=xs.filter aliveQ:=by unfold keptV;rw [List.take_length]
theorem idx_cases(xs:List VertM):(idxB deadQ xs = -1∧xs.filter aliveQ=xs)∨∃ k u,k<xs.length∧idxB deadQ xs=(k:Int)∧xs[k]? = some u∧u.dead=true∧keptV xs k=xs.take k:=by
 unfold idxB;cases h:xs.findIdx? deadQ with
 | none =>rw [List.findIdx?_eq_none_iff] at h;exact .inl ⟨rfl,List.filter_eq_self.2 fun x hx=>by have:=h x hx;unfold deadQ at this;simp [aliveQ,this]⟩
 | some k =>rw [List.findIdx?_eq_some_iff_getElem] at h;obtain⟨hk,h1,h2⟩:=h;refine .inr ⟨k,xs[k],hk,rfl,List.getElem?_eq_getElem hk,h1,?_⟩;unfold keptV;refine List.filter_eq_self.2 fun x hx => ?_;obtain⟨j,hj,rfl⟩:=List.mem_iff_getElem.1 hx;rw [List.length_take] at hj;rw [List.getElem_take];have:=h2 j (by omega);unfold deadQ at this;simp [aliveQ];simpa using this
def DelRes(w:World)(B:Nat)(v:Value)(xs:List VertM)(e:Ending)(w':World):Prop:=∃ v',e=.returned v'∧GOwn encVert 9 101 w' B v' (xs.filter aliveQ)∧w.grownBy w' v.ownBlock
def DelRel(w:World)(B g cap:Nat)(xs:List VertM)(v5 v6:Value)(wr:World):Prop:=
 ∃(m j:Nat) (zs:List VertM),j≤xs.length∧m<j∧v5=.int .i64 m∧v6=.int .i64 j∧zs.length=xs.length∧Hid (zs.take m=keptV xs j)∧Hid (∀ i,j≤i→zs[i]? = xs[i]?) ∧
  Hid (OwnAt wr B 101 9 g xs.length cap (zs.flatMap encVert))∧Hid (w.grownBy wr (some g))
attribute [local irreducible] keptV aliveQ
theorem delete_any{w:World}{v:Value}(h:GOwn encVert 9 101 w B v xs)(hn:xs.length≤1000000) :
  Calls Tryz.prog 138 #[v,.func (.func 139) #[] #[]] w (DelRes w B v xs):=by
 have HO:=Lh h;have hcon:=idxDead_any v xs w h.row hn;unfold IdRes at hcon;rcases idx_cases xs with⟨hi,hf⟩|⟨k0,u0,hk0,hi,hu0,hd0,hkp⟩
 · rw [hi] at hcon;have HF:=Lh hf;clear h hi hf;go_enter Tryz.func138,Tryz.ntmps138;go_wp2_with fail;refine hcon.mono ?_;rintro e w1 ⟨rfl,hb1⟩;have HB1:=Lh hb1;clear hcon hb1;go_wp2;go_ret;exact⟨_,rfl,(by rw [HF.o];exact HO.o.over HB1.o),grown_of_below HB1.o⟩
 rw [hi] at hcon;obtain⟨g,cap,rfl,hA⟩:=own_at (show World.ownsRow _ _ _ _ _ _ _ from h) (by omega);have HA:=Lh hA;have hnc:=hA.nc;have hcm:=hA.cm;unfold maxLen at hcm;have hg:=hA.lt;have HK0:Hid (xs.take k0=keptV xs (k0+1)):=by show _=_;rw [kept_no hu0 hd0,hkp]
 clear h hi hA hu0 hd0 hkp;go_enter Tryz.func138,Tryz.ntmps138;go_wp2_with fail;refine hcon.mono ?_;rintro e w1 ⟨rfl,hb1⟩;have HA1:=Lh (HA.o.over hb1);have HG1:=Lh (grown_of_below hb1 (row:=some g));have d0:((k0:Int) == -1)=false:=by simp <;> omega
 clear hcon hb1;go_wp2;go_loopw [5,6] (fun v5 v6 wr=>DelRel w B g cap xs v5 v6 wr) (fun _ v6 _=>xs.length - (intOf v6).toNat)
 case atStart=>exact⟨k0,k0+1,xs,hk0,Nat.lt_succ_self _,rfl,by go_num,rfl,HK0,Lh (fun _ _=>rfl),HA1,HG1⟩
 obtain⟨m,j,zs,hj,hm,rfl,rfl,hz,HT,HJ,HI,HG⟩:=hrel;rename World=>wr;have sI:=HI.o.lt
 by_cases hlt:j<xs.length
 rotate_left
 ·
  obtain rfl:j=xs.length:=by omega
  have HE:Hid (zs.take m=xs.filter aliveQ):=by show _=_;rw [HT.o,kept_all]
  have hlen:(xs.filter aliveQ).length=m:=by rw [← HE.o,List.length_take];omega
  have HL:=Lh hlen;have HTk:=Lh (HI.o.take (k:=m) (by omega));have hcm2:¬ cap=m:=by omega
  have HF:Hid ((zs.flatMap encVert).take (m*9)=(xs.filter aliveQ).flatMap encVert):=by
   show _=_;rw [← HE.o]
   conv=>lhs;rw [← List.take_append_drop m zs,List.flatMap_append]
   have:((zs.take m).flatMap encVert).length=m*9:=(by rw [flat_len encVert_len,List.length_take,Nat.min_eq_left (by omega)]);rw [List.take_append_of_le_length (by omega),List.take_of_length_le (by omega)]
  clear hlen;go_wp2_with (refine wpList_clear_at slVertP _ zero_Vert (zero_one oneZ_Vert) (fun k=>by rw [size_zeroCells];rfl) rfl _ rfl B g m cap _ HTk.o m _ _ _ rfl rfl (Nat.le_refl _) (by omega) ?_;intro w3 hA3 hg3 hs3);go_ret;refine⟨_,rfl,?_,gtr HG.o hg3⟩;show World.ownsRow _ _ _ _ _ _ _;rw [HL.o,← HF.o];exact hA3.own
 obtain⟨u,hu⟩:=gol hlt;have hu2:zs[j]? = some u:=(HJ.o j (Nat.le_refl _)).trans hu;have HU:=Lh hu;have u0:wr.cell? ⟨g,j*9,none⟩=some (.int .u8 u.id.pid.author.toNat):=HI.o.cell ((flat_get encVert_len _ j 0 u hu2 (by decide)).trans rfl);have u1:wr.cell? ⟨g,j*9+1,none⟩=some (.int .u16 u.id.pid.seq.toNat):=HI.o.cell ((flat_get encVert_len _ j 1 u hu2 (by decide)).trans rfl);have u2:wr.cell? ⟨g,j*9+2,none⟩=some (.int .u8 u.id.n.toNat):=HI.o.cell ((flat_get encVert_len _ j 2 u hu2 (by decide)).trans rfl);have u3:wr.cell? ⟨g,j*9+3,none⟩=some (.int .u8 u.kind.toNat):=HI.o.cell ((flat_get encVert_len _ j 3 u hu2 (by decide)).trans rfl);have u4:wr.cell? ⟨g,j*9+4,none⟩=some (.int .u8 u.file.pid.author.toNat):=HI.o.cell ((flat_get encVert_len _ j 4 u hu2 (by decide)).trans rfl);have u5:wr.cell? ⟨g,j*9+5,none⟩=some (.int .u16 u.file.pid.seq.toNat):=HI.o.cell ((flat_get encVert_len _ j 5 u hu2 (by decide)).trans rfl);have u6:wr.cell? ⟨g,j*9+6,none⟩=some (.int .u8 u.file.n.toNat):=HI.o.cell ((flat_get encVert_len _ j 6 u hu2 (by decide)).trans rfl);have u7:wr.cell? ⟨g,j*9+7,none⟩=some (.string u.text):=HI.o.cell ((flat_get encVert_len _ j 7 u hu2 (by decide)).trans rfl);have u8:wr.cell? ⟨g,j*9+8,none⟩=some (.bool u.dead):=HI.o.cell ((flat_get encVert_len _ j 8 u hu2 (by decide)).trans rfl);clear hu hu2;go_upto_region 8 with fail;have HA7:=Lh (anw wr (cX u) 101);have HB7:=Lh (bnew (w:=wr) (.cells (cX u) 101));generalize wr.alloc (.cells (cX u) 101)=w7 at *;clear u0 u1 u2 u3 u4 u5 u6 u7 u8;obtain⟨y0,y1,y2,y3,y4,y5,y6,y7,y8,sy⟩:=HA7.o.c9;go_wp2_with fail;refine(deadFn_any u _).mono ?_;rintro e w8 ⟨rfl,hb8⟩;have HB8:=Lh (bvo HB7.o hb8);have HA8:=Lh (HA7.o.over hb8);have HI8:=Lh (HI.o.over HB8.o);have HG8:=Lh (gtr HG.o (grown_of_below HB8.o (row:=some g)));clear hb8 y0 y1 y2 y3 y4 y5 y6 y7 y8 sy;obtain⟨z0,z1,z2,z3,z4,z5,z6,z7,z8,sz⟩:=HA8.o.c9;cases hf:u.dead with
 | true =>
  have HK:=Lh (kept_no HU.o hf);clear hf;go_wp2;go_roundw
  case rel=>exact⟨m,j+1,zs,hlt,by omega,rfl,by go_num,hz,(by show _=_;rw [HK.o];exact HT.o),Lh (fun i hi=>HJ.o i (by omega)),HI8,HG8⟩
  simp [intOf];omega
 | false =>
  have HK:=Lh (kept_yes HU.o hf);have hml:m<zs.length:=by omega
  have HFs:=Lh (flat_set encVert_len zs m u hml);have hel:=encVert_len u;have hone:=oneVert u;clear hf;go_wp2_with ((with_reducible show wpList _ _ _ ({dst:=_,op:=.store _ _ _,type:=_,pos:=_,after:=_,guard:=_} :: _) _ _);(refine wpList_store_own rowVert rfl _ _ rfl HI8.o (m*9) (encVert u) rfl rfl rfl (by rw [hel];omega) hone ?_);intro w9 hI9 hg9 hs9);have HI9:Hid (OwnAt w9 B 101 9 g xs.length cap ((zs.set m u).flatMap encVert)):=by show OwnAt _ _ _ _ _ _ _ _;rw [HFs.o,show(m+1)*9=m*9+(encVert u).length by rw [hel];omega];exact hI9
  have HG9:=Lh (gtr HG8.o hg9);clear hI9 hg9;go_wp2;go_roundw
  case rel=>exact⟨m+1,j+1,zs.set m u,hlt,by omega,by go_num,by go_num,by simpa using hz,(by show _=_;rw [take_set_end hml,HK.o,HT.o]),Lh (fun i hi=>by rw [List.getElem?_set,if_neg (by omega)];exact HJ.o i (by omega)),HI9,HG9⟩
  simp [intOf];omega
theorem laterCmpG(a b:VertM)(w:World):Calls Tryz.prog 141 #[vertV a,vertV b] w fun e w'=>e=.returned (.int .i64 (cmpLater b.id a.id))∧Grew w w':=by have HA:=Lh ((anw w (cX a) 101).alloc (.cells (cX b) 101));have HC:=Lh (an2 w (.cells (cX a) 101) (cX b) 101);have HB:=Lh (((Grew.refl w).alloc (.cells (cX a) 101)).alloc (.cells (cX b) 101));unfold vertV;go_enter Tryz.func141,Tryz.ntmps141;go_upto_region 1 with fail;generalize (w.alloc (.cells (cX a) 101)).alloc (.cells (cX b) 101)=w0 at *;obtain⟨c0,c1,c2,c3,c4,c5,c6,c7,c8,sc⟩:=HA.o.c9;obtain⟨d0,d1,d2,d3,d4,d5,d6,d7,d8,sd⟩:=HC.o.c9;go_wp2_with fail;refine(vlaterG b.id a.id _).mono ?_;rintro e w1 ⟨rfl,hg⟩;have HG:=Lh (HB.o.trans hg);clear hg;go_wp2;go_ret;exact⟨rfl,HG.o⟩
theorem later_neg(x y:VertM):(cmpLater y.id x.id<0)=(revK x.id<revK y.id):=by have h1:=laterK_lt x.id;have h2:=laterK_lt y.id;unfold cmpLater revK;rw [cmpN_neg];refine propext ⟨fun h => ?_,fun h => ?_⟩ <;> omega
theorem sortLater_any{w:World}{g cap:Nat}(h:OwnAt w B 101 9 g xs.length cap (xs.flatMap encVert))(hn:xs.length≤1000000000) :
  Calls Tryz.prog 140 #[.slice (some ⟨g,0,none⟩) xs.length cap,.func (.func 141) #[] #[]] w (SortRes (fun a b=>cmpLater b.id a.id) encVert 9 101 w B g cap xs):=by have hcon:=sortF_any (P:=Tryz.prog) Tryz.sortVert (k:=9) (enc:=encVert) Tryz.isAgg101 Tryz.sizeOf101 (fun _=>rfl) oneVert (fun a b=>cmpLater b.id a.id) (swo_key (fun x:VertM=>revK x.id) _ later_neg) 141 (enters_of Tryz.func141 (by kernel_rfl) rfl) (fun x y W=>laterCmpG x y W) h (by omega);exact hcon
theorem aliveM_q(L:List PatchM)(f:VidM):(ofM L f 2).filter aliveQ=aliveM L f:=by unfold aliveQ;rfl
theorem ofM_len(L:List PatchM)(f:VidM)(k:UInt8):(ofM L f k).length≤(idsM L).length:=Nat.le_trans (List.length_filter_le _ _) (by unfold vertsM;rw [List.length_map];exact Nat.le_refl _)
attribute [local irreducible] ofM aliveM namesM idsM
theorem nof_any(b:Nat)(L:List PatchM)(file:VidM)(w:World)(hg:GrIs w b L)(hw:WfG L)(hil:(idsM L).length≤1000000) :
  Calls Tryz.prog 79 #[.pointer (some ⟨b,0,none⟩),vidV file] w (OwnRes encVert 9 101 w (namesM L file)):=by
 have HF:=Lh (anw w (cV file) 74);have HB:=Lh (bnew (w:=w) (.cells (cV file) 74));have HG:=Lh hg;have HW:=Lh hw;have HQ:=Lh (aliveM_q L file);have hol:=ofM_len L file 2;have HE:=Lh (fun(out:List VertM) (hp:out.Perm (aliveM L file)) hs=>names_eq (wf_len hw) file hp hs);clear hg hw;unfold vidV;go_enter Tryz.func79,Tryz.ntmps79;go_upto_region 1 with fail;generalize w.alloc (.cells (cV file) 74)=w0 at *;obtain⟨c0,c1,c2,sc⟩:=HF.o.c3;go_wp2_with fail;refine(gof_any b L file 2 _ (HG.o.over HB.o) HW.o hil).mono ?_;rintro e w1 ⟨v1,rfl,ho1,hb1⟩;have HB1:=Lh (bvo HB.o hb1);have HV1:Hid (∀ k,v1.ownBlock=some k→w.heap.size≤k):=fun k hk=>Nat.le_trans HB.o.size (gown_base ho1 hk);have HO1:=Lh ho1;clear hb1 ho1;go_wp2_with fail;refine(delete_any HO1.o (by omega)).mono ?_;rintro e w2 ⟨v2,rfl,ho2,hg2⟩;rw [HQ.o] at ho2;have HB2:=Lh (HB1.o.grown hg2 HB1.o.size HV1.o);have HO2:=Lh (ho2.base HB.o.size);have hal:(aliveM L file).length≤1000000:=by rw [← HQ.o];exact Nat.le_trans (List.length_filter_le _ _) (by omega)
 clear ho2 hg2 HV1;rcases own_cases HO2.o with⟨h0,p,c,rfl⟩|⟨hne,g,cap,rfl,hA⟩
 · have HN:Hid (([]:List VertM)=namesM L file):=HE.o [] (by rw [h0]) List.Pairwise.nil;go_wp2_with fail;refine(sortVert_none _ _ _ _).mono ?_;rintro e w3 ⟨rfl,hw3⟩;obtain rfl:=hw3.symm;go_wp2;go_ret;exact⟨_,rfl,(by rw [← HN.o,← h0];exact HO2.o),HB2.o⟩
 have HAt:=Lh hA;clear hA;go_wp2_with fail;refine(sortLater_any HAt.o (by omega)).mono ?_;rintro e w3 ⟨rfl,ys,hp,hs,hA3,hg3⟩;have HN:=Lh (HE.o ys hp (hs.imp fun h=>by simpa using h));have hyl:=hp.length_eq;have HO3:Hid (GOwn encVert 9 101 w3 w.heap.size (.slice (some ⟨g,0,none⟩) (aliveM L file).length cap) ys):=by show World.ownsRow _ _ _ _ _ _ _;rw [hyl];exact hA3.own
 have HG3:=Lh hg3;clear hp hs hA3 hg3 hyl;go_wp2;go_ret;exact⟨_,rfl,(by rw [← HN.o];exact HO3.o),HB2.o.grown HG3.o HB2.o.size fun k hk=>by cases hk;exact HAt.o.base⟩
end Go.Proofs.YtjccmcgglfncdaaGreatDoor
namespace Go.Proofs.YtjccmcgglfncdaaGreatDoor
open Go Go.RowKit
variable{want:List ByteArray}{ks:List Int}{kl ops:List OpM}{l:List VertM}{at':List VidM}{B c from' gA gK j m:Nat}{p:Option Addr}{id:PidM}{e:TypeId}{file:VidM}{w w0 wr:World}
theorem vids_cells(n:Nat):(madeCells #[.int .u8 0,.int .u16 0,.int .u8 0] (n*3)).toList=(List.replicate n noVid).flatMap encVid:=by
 refine List.ext_getElem? fun k => ?_
 by_cases hk:k<n*3
 ·
  have h2:=flat_get encVid_len (List.replicate n noVid) (k / 3) (k % 3) noVid (by rw [List.getElem?_replicate,if_pos (by omega)]) (by omega);rw [show k / 3*3+k % 3=k by omega] at h2;rw [h2];unfold madeCells;have h3:k % 3=0∨k % 3=1∨k % 3=2:=by omega
  rcases h3 with h3|h3|h3 <;> simp [h3,hk] <;> rfl
 rw [List.getElem?_eq_none (by simp [madeCells];omega),List.getElem?_eq_none (by rw [flat_len encVid_len];simp;omega)]
theorem own_fullN{g n sz:Nat}{xs:List Value}(h:w.ownsRow B e sz (.slice (some ⟨g,0,none⟩) n n) n xs):ArrT w g e xs∧B≤g:=by
 obtain⟨h1,h2⟩:=h;rcases h2 with⟨hv,_⟩|⟨g',cap,cur,hv,hb,hg,hnc,hm,hs,ht⟩
 · cases hv
 cases hv
 have:cur.toList=xs:=by rw [← ht,List.take_of_length_le (by simp;omega)]
 refine⟨?_,hb⟩;unfold ArrT;rw [hg,← this]
def atL(at':List VidM)(j m:Nat):List VidM:=at'++List.replicate (m - j) noVid
theorem atL_zero(m:Nat):atL [] 0 m=List.replicate m noVid:=rfl
theorem atL_set(ha:at'.length=j)(hj:j<m)(v:VidM):(atL at' j m).set j v=atL (at'++[v]) (j+1) m:=by unfold atL;rw [List.set_append_right _ _ (by omega),ha,Nat.sub_self,show m - j=(m - (j+1))+1 by omega,List.replicate_succ,List.set_cons_zero,List.append_assoc];rfl
theorem atL_len(ha:at'.length=j)(hj:j≤m):(atL at' j m).length=m:=by unfold atL;rw [List.length_append,ha,List.length_replicate];omega
theorem atL_all:atL at' m m=at':=by unfold atL;rw [Nat.sub_self];simp
theorem oown_form{v:Value}{xs:List OpM}(h:GOwn encOp 8 e w B v xs):∃ p c,v=.slice p xs.length c:=by obtain⟨a,cap,e1,_⟩:=h.row.at encOp_len;exact⟨a,cap,e1⟩
theorem oown_more{v:Value}{xs ys:List OpM}{o:OpM}(h:GOwn encOp 8 e w B v (xs++[o]))(hy:ys=xs++[o]):∃(p:Option Addr) (c:Nat),v=.slice p ys.length c∧GOwn encOp 8 e w B v ys:=by subst hy;obtain⟨p,c,e⟩:=oown_form h;exact⟨p,c,e,h⟩
structure MidE (wr:World) (w0:World) (gK gA m j:Nat) (ks:List Int) (p:Option Addr) (c:Nat) (ops:List OpM) (at':List VidM):Prop where
 kept:ArrT wr gK 3 (keptV1 ks)
 names:ArrT wr gA 74 ((atL at' j m).flatMap encVid)
 own:GOwn encOp 8 76 wr w0.heap.size (.slice p ops.length c) ops
 below:Be w0 wr
theorem MidE.over{w2:World}(h:MidE wr w0 gK gA m j ks p c ops at')(hb:Be wr w2):MidE w2 w0 gK gA m j ks p c ops at':=
 ⟨h.kept.over hb,h.names.over hb,h.own.over hb,bvo h.below hb⟩
section
variable {P : Program} {ty : TypeId} {size : Nat} {w : World} {ops : Array Oper} {rest : List Oper} {o : Oper} {a : Act} {Q : Exit → Act → World → Prop}
theorem wpList_store_arrN(T:RowT P ty size)(hgd:o.guard=none)(x y:Operand)(ho:o.op=.store ty x y){sz g n:Nat}{cs:List Value}(hA:ArrT w g e cs)(hl:cs.length=n*sz)(hm:n≤maxLen)(k:Nat)(new:List Value)
  (hx:a.eval x=.pointer (some ⟨g,k,none⟩)) (hy:a.eval y=.agg new.toArray) (hn:new.length=size) (hk:k+new.length≤n*sz) (h1:∀ u∈new,u.oneCell'=true)
  (h:∀ w',ArrT w' g e (cs.take k++new++cs.drop (k+new.length))→w.grownBy w' (some g)→wpList P ops Q rest (a.put o.dst undef) w'):wpList P ops Q (o :: rest) a w:=
 wpList_store_own T hgd x y ho (B:=g) (e:=e) (sz:=sz) (n:=n) (cap:=n) (xs:=cs) ⟨⟨[],by rw [List.append_nil];exact hA,by rw [List.append_nil];exact hl⟩,hl,Nat.le_refl _,Nat.le_refl _,hm⟩ k new hx hy hn hk h1 fun w' hO hg _=>h w' (own_fullN hO.own).1 hg
end
theorem vids_put{l:List VidM}{v:VidM}(h:j<l.length):(l.flatMap encVid).take (j*3)++encVid v++(l.flatMap encVid).drop (j*3+(encVid v).length)=(l.set j v).flatMap encVid:=by rw [flat_set encVid_len l j v h,show(j+1)*3=j*3+(encVid v).length by rw [encVid_len];omega]
theorem MidE.name{w':World}(h:MidE wr w0 gK gA m j ks p c ops at')(ha:at'.length=j)(hj:j<m)(hg:w0.heap.size≤gA)(hne:gK≠gA){v:VidM}
  (hA:ArrT w' gA 74 (((atL at' j m).flatMap encVid).take (j*3)++encVid v++((atL at' j m).flatMap encVid).drop (j*3+(encVid v).length))) (hgr:wr.grownBy w' (some gA)):MidE w' w0 gK gA m (j+1) ks p c ops (at'++[v]):=by rw [vids_put (by rw [atL_len ha (Nat.le_of_lt hj)];exact hj),atL_set ha hj] at hA;exact⟨h.kept.kept hgr (fun e=>hne (Option.some.inj e)),hA,own_kept h.own hgr (h.names.ne h.own (by decide)),h.below.grown hgr h.below.size fun q hq=>by cases hq;exact hg⟩
theorem atL_flat(ha:at'.length=j)(hj:j≤m):((atL at' j m).flatMap encVid).length=m*3:=by rw [flat_len encVid_len,atL_len ha hj]
theorem MidE.op{w9:World}{p9:Option Addr}{c9:Nat}{ops9:List OpM}(h:MidE wr w0 gK gA m j ks p c ops at')(ho:GOwn encOp 8 76 w9 w0.heap.size (.slice p9 ops9.length c9) ops9)(hg:wr.grownBy w9 (Value.slice p ops.length c).ownBlock) :
  MidE w9 w0 gK gA m j ks p9 c9 ops9 at':=
 ⟨h.kept.kept hg (h.kept.ne h.own (by decide)),h.names.kept hg (h.names.ne h.own (by decide)),ho,bgr h.below h.below.size h.own hg⟩
def A1Rel(w0:World)(l:List VertM)(file:VidM)(id:PidM)(from':Nat)(ks:List Int)(want:List ByteArray)(kl:List OpM)(gK gA m:Nat)(v12 v30:Value)(wr:World):Prop:=
 ∃(j:Nat) (ops:List OpM) (at':List VidM) (p:Option Addr) (c:Nat),j≤m∧v30=.int .i64 j∧v12=.slice p ops.length c∧Hid ((ops,at')=addsTo l file id from' ks want kl j)∧Hid (MidE wr w0 gK gA m j ks p c ops at')
def A2Rel(w0:World)(R:List (Nat × Nat))(ks:List Int)(at':List VidM)(ops0:List OpM)(gK gA m:Nat)(v12 v69:Value)(wr:World):Prop:=
 ∃(j:Nat) (ops:List OpM) (p:Option Addr) (c:Nat),j≤m∧v69=.int .i64 j∧v12=.slice p ops.length c∧Hid (ops=ops0++tiesTo R ks at' j)∧Hid (MidE wr w0 gK gA m m ks p c ops at')
theorem rowVidE:RowT Tryz.prog 74 3:=rowT_of Tryz.underlying74 rfl (by kernel_rfl)
theorem slVidE:SlT Tryz.prog 148 74 3 6:=slT_of Tryz.underlying148 (by kernel_rfl) (by decide)
attribute [local irreducible] keptV1 keptTo textAt firmX aliveX killsE addsTo tiesTo atL
theorem adds_both(hl:ks.length=want.length)(hj:j≤want.length)(h:(ops,at')=addsTo l file id from' ks want kl j):at'.length=j∧ops.length≤kl.length+j:=by have h1:=adds_len2 (l:=l) (file:=file) (id:=id) (from':=from') (ks:=kl) hl j hj;have h2:=adds_len1 (l:=l) (file:=file) (id:=id) (from':=from') (kept:=ks) (want:=want) (ks:=kl) j;rw [← h] at h1 h2;exact⟨h1,h2⟩
theorem adds_next1{i:Nat}{t:ByteArray}{x:VertM}(hk:ks[j]? = some (i:Int))(ht:want[j]? = some t)(hx:l[i]? = some x)(h:(ops,at')=addsTo l file id from' ks want kl j) :
  (ops,at'++[x.id])=addsTo l file id from' ks want kl (j+1):=by rw [adds_yes hk ht,← h,getD_of hx]
theorem adds_next2{t:ByteArray}(hk:ks[j]? = some (-1))(ht:want[j]? = some t)(h:(ops,at')=addsTo l file id from' ks want kl j) :
  (ops++[⟨3,file,noVid,t⟩],at'++[⟨id,UInt8.ofNat (from'+ops.length)⟩])=addsTo l file id from' ks want kl (j+1):=by rw [adds_no hk ht,← h]
end Go.Proofs.YtjccmcgglfncdaaGreatDoor
namespace Go.Proofs.YtjccmcgglfncdaaGreatDoor
open Go Go.RowKit
section
variable{α:Type}
theorem putS_lenF{key:α→Nat}(x:α):∀ r:List α,(putS key x r).length≤r.length+1
 | []=>by simp [putS]
 | y :: r=>by
  have:=putS_lenF (key:=key) x r;rw [putS];split
  · simp
  split
  · simp
  simp only [List.length_cons];omega
theorem setS_few{key:α→Nat}(l:List α):(setS key l).length≤l.length:=by
 have:∀(l out:List α),(l.foldl (fun out x=>putS key x out) out).length≤out.length+l.length:=by
  intro l;induction l with
  | nil=>intro out;simp
  | cons x l ih =>intro out;have h1:=ih (putS key x out);have h2:=putS_lenF (key:=key) x out;rw [List.foldl_cons,List.length_cons];omega
 have:=this l [];simpa [setS] using this
theorem flat_few{β:Type}(f:α→List β)(b:Nat):∀ l:List α,(∀ x∈l,(f x).length≤b)→(l.flatMap f).length≤b*l.length
 | [],_=>by simp
 | x :: l,h=>by have h1:=h x (List.mem_cons_self ..);have h2:=flat_few f b l fun y hy=>h y (List.mem_cons_of_mem _ hy);rw [List.flatMap_cons,List.length_append,List.length_cons,Nat.mul_succ];omega
theorem idsOf_few(L:List PatchM)(b:Nat)(h:∀ p∈L,p.ops.length≤b):(idsOf L).length≤b*L.length:=by refine flat_few _ b L fun p hp=>Nat.le_trans (List.length_filterMap_le _ _) ?_;rw [List.length_range];exact h p hp
theorem edgesOf_few(L:List PatchM)(b:Nat)(h:∀ p∈L,p.ops.length≤b):(edgesOf L).length≤b*L.length:=
 flat_few _ b L fun p hp=>Nat.le_trans (List.length_filterMap_le _ _) (h p hp)
end
section
variable{t:List FileM}{L:List PatchM}{k m:Nat}
def killOp(v:VidM):OpM:=⟨5,v,noVid,⟨#[]⟩⟩
noncomputable def killsN(L:List PatchM)(t:List FileM)(n:NameM):List OpM:=
 if findT t n.name<0 then [killOp n.file] else((namesM L n.file).filter fun v=>decide (v.text≠n.name)).map fun v=>killOp v.id
noncomputable def killsTo(L:List PatchM)(t:List FileM)(k:Nat):List OpM:=((allM L).take k).flatMap (killsN L t)
noncomputable def linesOps(l:List VertM)(R:List (Nat × Nat))(file:VidM)(id:PidM)(c:Nat)(want:List ByteArray):List OpM:=
 editM l R (aliveX l R) (firmX l R) file id c want (pairs ((firmX l R).map (textAt l)) want)
def noFile:FileM:=⟨⟨#[]⟩,[],[]⟩
noncomputable def plEdStep(L:List PatchM)(t:List FileM)(id:PidM)(out:List OpM)(n:NameM):List OpM:=
 if findT t n.name<0 then out else out++linesOps (linesM L n.file) (relM L n.file) n.file id out.length (t.getD (findT t n.name).toNat noFile).lines
noncomputable def edTo(L:List PatchM)(t:List FileM)(id:PidM)(k:Nat):List OpM:=((allM L).take k).foldl (plEdStep L t id) (killsTo L t (allM L).length)
def isThere(ns:List NameM)(f:FileM):Bool:=ns.any fun n=>decide (n.name=f.name)
noncomputable def fileOps(id:PidM)(c:Nat)(f:FileM):List OpM:=
 ⟨1,noVid,noVid,⟨#[]⟩⟩ :: ⟨2,⟨id,UInt8.ofNat c⟩,noVid,f.name⟩ :: linesOps [] [] ⟨id,UInt8.ofNat c⟩ id (c+2) f.lines
noncomputable def newStep(ns:List NameM)(id:PidM)(out:List OpM)(f:FileM):List OpM:=if isThere ns f then out else out++fileOps id out.length f
noncomputable def newTo(L:List PatchM)(t:List FileM)(id:PidM)(k:Nat):List OpM:=(t.take k).foldl (newStep (allM L) id) (edTo L t id (allM L).length)
noncomputable def planM(L:List PatchM)(t:List FileM)(id:PidM):List OpM:=newTo L t id t.length
theorem killsTo_succ{n:NameM}(h:(allM L)[k]? = some n):killsTo L t (k+1)=killsTo L t k++killsN L t n:=by unfold killsTo;rw [take_one h,List.flatMap_append];simp
theorem edTo_succ{id:PidM}{n:NameM}(h:(allM L)[k]? = some n):edTo L t id (k+1)=plEdStep L t id (edTo L t id k) n:=by unfold edTo;rw [take_one h,List.foldl_append];rfl
theorem newTo_succ{id:PidM}{f:FileM}(h:t[k]? = some f):newTo L t id (k+1)=newStep (allM L) id (newTo L t id k) f:=by unfold newTo;rw [take_one h,List.foldl_append];rfl
theorem edTo_zero(L:List PatchM)(t:List FileM)(id:PidM):edTo L t id 0=killsTo L t (allM L).length:=rfl
theorem newTo_zero(L:List PatchM)(t:List FileM)(id:PidM):newTo L t id 0=edTo L t id (allM L).length:=rfl
theorem killsTo_zero(L:List PatchM)(t:List FileM):killsTo L t 0=[]:=rfl
theorem linesOps_len(l:List VertM)(R:List (Nat × Nat))(file:VidM)(id:PidM)(c:Nat)(want:List ByteArray):(linesOps l R file id c want).length≤l.length+2*want.length:=by unfold linesOps;rw [edit_eq,List.length_append];have h1:=adds_len1 (l:=l) (file:=file) (id:=id) (from':=c) (kept:=keptTo (firmX l R) (pairs ((firmX l R).map (textAt l)) want) want.length) (want:=want) (ks:=killsE l (aliveX l R) (keptTo (firmX l R) (pairs ((firmX l R).map (textAt l)) want) want.length)) want.length;have h2:=kills_len l (keptTo (firmX l R) (pairs ((firmX l R).map (textAt l)) want) want.length) (aliveX l R);have h3:=ties_len R (keptTo (firmX l R) (pairs ((firmX l R).map (textAt l)) want) want.length) (addsTo l file id c (keptTo (firmX l R) (pairs ((firmX l R).map (textAt l)) want) want.length) want (killsE l (aliveX l R) (keptTo (firmX l R) (pairs ((firmX l R).map (textAt l)) want) want.length)) want.length).2 want.length;have h4:=aliveX_len l R;omega
theorem namesM_few{f:VidM}(h:(idsM L).length≤m):(namesM L f).length≤m:=by unfold namesM;rw [List.length_map];refine Nat.le_trans (setS_few _) ?_;rw [List.length_map];unfold aliveM ofM;refine Nat.le_trans (List.length_filter_le _ _) (Nat.le_trans (List.length_filter_le _ _) ?_);unfold vertsM;rw [List.length_map];exact h
theorem killsTo_len(L:List PatchM)(t:List FileM)(hm:∀ n∈allM L,(namesM L n.file).length≤m)(h1:1≤m):∀ k,(killsTo L t k).length≤k*m
 | 0=>by simp [killsTo]
 | k+1=>by
  have ih:=killsTo_len L t hm h1 k;rcases Nat.lt_or_ge k (allM L).length with hk|hk
  ·
   obtain⟨n,hn⟩:=gol hk;rw [killsTo_succ hn,List.length_append];have h2:(killsN L t n).length≤m:=by
    unfold killsN;split
    · simpa using h1
    rw [List.length_map];exact Nat.le_trans (List.length_filter_le _ _) (hm n (List.mem_of_getElem? hn))
   have:(k+1)*m=k*m+m:=(by rw [Nat.add_mul,Nat.one_mul]);omega
  have h2:killsTo L t (k+1)=killsTo L t k:=by unfold killsTo;rw [List.take_of_length_le (by omega),List.take_of_length_le hk]
  rw [h2];exact Nat.le_trans ih (Nat.mul_le_mul_right _ (by omega))
theorem edTo_len(L:List PatchM)(t:List FileM)(id:PidM){p:Nat}(hm:∀ n∈allM L,(linesM L n.file).length≤m)(ht:∀ f∈t,f.lines.length≤p):∀ k,(edTo L t id k).length≤(killsTo L t (allM L).length).length+k*(m+2*p)
 | 0=>by rw [edTo_zero];omega
 | k+1=>by
  have ih:=edTo_len L t id hm ht k;have h0:(k+1)*(m+2*p)=k*(m+2*p)+(m+2*p):=by rw [Nat.add_mul,Nat.one_mul]
  rcases Nat.lt_or_ge k (allM L).length with hk|hk
  ·
   obtain⟨n,hn⟩:=gol hk;rw [edTo_succ hn];unfold plEdStep;split
   · omega
   rw [List.length_append];have h1:=linesOps_len (linesM L n.file) (relM L n.file) n.file id (edTo L t id k).length (t.getD (findT t n.name).toNat noFile).lines;have h2:=hm n (List.mem_of_getElem? hn);have h3:(t.getD (findT t n.name).toNat noFile).lines.length≤p:=by
    rw [List.getD_eq_getElem?_getD];cases hg:t[(findT t n.name).toNat]? with
    | none=>simp [noFile]
    | some f=>simpa using ht f (List.mem_of_getElem? hg)
   omega
  have h2:edTo L t id (k+1)=edTo L t id k:=by unfold edTo;rw [List.take_of_length_le (by omega),List.take_of_length_le hk]
  rw [h2];omega
theorem newTo_len(L:List PatchM)(t:List FileM)(id:PidM){p:Nat}(ht:∀ f∈t,f.lines.length≤p):∀ k,(newTo L t id k).length≤(edTo L t id (allM L).length).length+k*(2+2*p)
 | 0=>by rw [newTo_zero];omega
 | k+1=>by
  have ih:=newTo_len L t id ht k;have h0:(k+1)*(2+2*p)=k*(2+2*p)+(2+2*p):=by rw [Nat.add_mul,Nat.one_mul]
  rcases Nat.lt_or_ge k t.length with hk|hk
  ·
   obtain⟨f,hf⟩:=gol hk;rw [newTo_succ hf];unfold newStep;split
   · omega
   rw [List.length_append];unfold fileOps;have h1:=linesOps_len [] [] ⟨id,UInt8.ofNat (newTo L t id k).length⟩ id ((newTo L t id k).length+2) f.lines;have h2:=ht f (List.mem_of_getElem? hf);simp only [List.length_cons,List.length_nil] at h1 ⊢;omega
  have h2:newTo L t id (k+1)=newTo L t id k:=by unfold newTo;rw [List.take_of_length_le (by omega),List.take_of_length_le hk]
  rw [h2];omega
end
def ShV(w:World)(s:Option Addr)(l:List VertM)(R:List (Nat × Nat)):Prop:=(∃ b,s=some ⟨b,0,none⟩∧ShAt w b l R)∨(s=none∧l=[]∧R=[])
theorem ShV.over{w w':World}{s:Option Addr}{l:List VertM}{R:List (Nat × Nat)}(h:ShV w s l R)(hb:Be w w'):ShV w' s l R:=
 h.imp (fun⟨b,e,h⟩=>⟨b,e,h.over hb⟩) id
theorem orderN:orderM [] 0=[]:=up_order (L:=[]) (fun s h=>absurd h (List.not_mem_nil)) 0
theorem sorderN_any(w:World):Calls Tryz.prog 189 #[.pointer none] w fun e w'=>e=.returned (.slice none 0 0)∧w'=w:=by go_enter Tryz.func189,Tryz.ntmps189;go_wp2;go_ret;exact⟨rfl,rfl⟩
theorem idxN_any(f:Value)(w:World):Calls Tryz.prog 249 #[.slice none 0 0,f] w fun e w'=>e=.returned (.int .i64 (-1))∧w'=w:=by
 go_enter Tryz.func249,Tryz.ntmps249;go_wp2;go_loopw [8] (fun v8 wr=>v8=.int .i64 0∧wr=w) (fun v8 _=>0)
 case atStart=>exact⟨rfl,rfl⟩
 obtain⟨rfl,hw⟩:=hrel;obtain rfl:=hw;go_wp2;go_ret;exact⟨rfl,rfl⟩
theorem delN_any(f:Value)(w:World):Calls Tryz.prog 188 #[.slice none 0 0,f] w fun e w'=>e=.returned (.slice none 0 0)∧w'=w:=by go_enter Tryz.func188,Tryz.ntmps188;go_wp2_with fail;refine(idxN_any _ _).mono ?_;rintro e w1 ⟨rfl,hw⟩;obtain rfl:=hw.symm;go_wp2;go_ret;exact⟨rfl,rfl⟩
theorem saliveN_any(w:World):Calls Tryz.prog 118 #[.pointer none] w fun e w'=>e=.returned (.slice none 0 0)∧Be w w':=by have HC:=Lh (anw w #[.pointer none] 90);have HB:=Lh (bnew (w:=w) (.cells #[.pointer none] 90));go_enter Tryz.func118,Tryz.ntmps118;go_upto_region 1 with fail;generalize w.alloc (.cells #[.pointer none] 90)=w0 at *;obtain⟨c0,sc⟩:=HC.o.c1;go_wp2_with fail;refine(sorderN_any _).mono ?_;rintro e w1 ⟨rfl,hw⟩;obtain rfl:=hw.symm;go_wp2_with fail;refine(delN_any _ _).mono ?_;rintro e w1 ⟨rfl,hw⟩;obtain rfl:=hw.symm;go_wp2;go_ret;exact⟨rfl,HB.o⟩
theorem saliveV_any(s:Option Addr)(l:List VertM)(R:List (Nat × Nat))(w:World)(h:ShV w s l R)(hl:l.length≤65536):Calls Tryz.prog 118 #[.pointer s] w (SaRes w l R):=by
 rcases h with⟨b,rfl,h⟩|⟨rfl,rfl,rfl⟩
 · exact salive_any b l R w h hl
 refine(saliveN_any w).mono ?_;rintro e w' ⟨rfl,hb⟩;refine⟨_,rfl,?_,hb⟩;rw [show([]:List VertM).length=0 from rfl,orderN];exact gown_nil _ _
theorem sfirmV_any(s:Option Addr)(i:Nat)(l:List VertM)(R:List (Nat × Nat))(w:World)(h:ShV w s l R)(hi:i<l.length)(hl:l.length≤65536):Calls Tryz.prog 277 #[.pointer s,.int .i64 i] w (fun e w'=>e=.returned (.bool (firmB R l.length i))∧w'=w):=by
 rcases h with⟨b,rfl,h⟩|⟨rfl,rfl,rfl⟩
 · exact sfirm_any b i l R w h hi hl
 exact absurd hi (by simp)
theorem svertV_any(s:Option Addr)(i:Nat)(x:VertM)(l:List VertM)(R:List (Nat × Nat))(w:World)(h:ShV w s l R)(hx:l[i]? = some x):Calls Tryz.prog 149 #[.pointer s,.int .i64 i] w (SvRes w x):=by
 rcases h with⟨b,rfl,h⟩|⟨rfl,rfl,rfl⟩
 · exact svert_any b i x l R w h hx
 simp at hx
theorem srelV_any(s:Option Addr)(l:List VertM)(R:List (Nat × Nat))(w:World)(h:ShV w s l R)(hl:0<l.length):Calls Tryz.prog 117 #[.pointer s] w (fun e w'=>(∃ r,e=.returned (.pointer (some ⟨r,0,none⟩))∧RelAt w r l.length R)∧w'=w):=by
 rcases h with⟨b,rfl,h⟩|⟨rfl,rfl,rfl⟩
 · exact srel_any b l R w h
 exact absurd hl (by simp)
end Go.Proofs.YtjccmcgglfncdaaGreatDoor
set_option maxRecDepth 100000
set_option maxHeartbeats 40000000
namespace Go.Proofs.YtjccmcgglfncdaaGreatDoor
open Go Go.RowKit
section
attribute [local irreducible] aliveX firmX firmTo firmB
theorem efirmV_any(s:Option Addr)(l:List VertM)(R:List (Nat × Nat))(w:World)(h:ShV w s l R)(hl:l.length≤65536):Calls Tryz.prog 219 #[.pointer s] w (OwnRes encI 1 3 w (firmX l R)):=by
 have HS:=Lh h;have hal:=aliveX_len l R;clear h;go_enter Tryz.func219,Tryz.ntmps219;go_wp2_with fail;refine(saliveV_any s l R _ HS.o hl).mono ?_;rw [sares_is];rintro e w1 ⟨v,rfl,ho,hb⟩;obtain⟨a,cap,rfl,h1,h2,hc⟩:=irow_at ho.row;unfold maxLen at h2;have HC:=Lh hc;have HB:=Lh hb;clear ho hc hb;go_wp2;go_loopw [3,9] (fun v3 v9 wr=>FmRel w1 l R v3 v9 wr) (fun _ v9 _=>(aliveX l R).length - (intOf v9).toNat)
 case atStart=>exact⟨0,by omega,rfl,Lh (by rw [firmTo_zero];exact gown_nil _ _),Below.refl _ _⟩
 obtain⟨k,hk,rfl,HM,hbl⟩:=hrel;rename World=>wr
 by_cases hlt:k<(aliveX l R).length
 rotate_left
 ·
  obtain rfl:k=(aliveX l R).length:=by omega
  have HE:=HM.o;rw [firmTo_all] at HE;have HE2:=Lh (HE.base HB.o.size);clear HE;go_wp2;go_ret;exact⟨_,rfl,HE2.o,bvo HB.o hbl.o⟩
 obtain⟨b,off,rfl,sb,hcb⟩:=HC.o.resolve_left (by omega);obtain⟨i,hi⟩:=gol hlt;obtain⟨sx,x0⟩:=hcb k i hi _ hbl.o;have hil:=aliveX_lt (List.mem_of_getElem? hi);have HI:=Lh hi;have HSr:=Lh (HS.o.over (bvo HB.o hbl.o));have hfl:=firmTo_len l R k;clear hcb hi;cases hf:firmB R l.length i with
 | true =>
  have HV:=Lh hf;have HN:=Lh (firmTo_yes HI.o hf);have hN:(firmTo l R k).length+1≤1099511627776:=by omega
  have hB:=hbl.o.size;clear hf;go_wp2_with fail;refine(sfirmV_any s i l R _ HSr.o hil hl).mono ?_;rintro e w2 ⟨rfl,hw⟩;obtain rfl:=hw.symm;rw [HV.o];go_wp2_with (at_builtin;refine apD slIntI rfl _ _ rfl w1.heap.size _ _ (drf _) 1 _ _ _ HM.o rfl rfl rfl rfl hN (by decide) hB ?_;intro v9 w9 ho9 hg9);go_roundw
  case rel=>exact⟨k+1,hlt,by go_num,(by show GOwn _ _ _ _ _ _ _;rw [HN.o];exact GOwn.snoc ho9),bgr hbl.o hB HM.o hg9⟩
  simp [intOf];omega
 | false =>
  have HV:=Lh hf;have HN:=Lh (firmTo_no HI.o hf);clear hf;go_wp2_with fail;refine(sfirmV_any s i l R _ HSr.o hil hl).mono ?_;rintro e w2 ⟨rfl,hw⟩;obtain rfl:=hw.symm;rw [HV.o];go_wp2;go_roundw
  case rel=>exact⟨k+1,hlt,by go_num,(by show GOwn _ _ _ _ _ _ _;rw [HN.o];exact HM.o),hbl⟩
  simp [intOf];omega
end
section
attribute [local irreducible] textAt textsTo
theorem etextsV_any(s:Option Addr)(v:Value)(l:List VertM)(R:List (Nat × Nat))(is':List Nat)(w:World)(h:ShV w s l R)(hv:GRow encI 1 w v is')(hi:∀ i∈is',i<l.length)(hn:is'.length≤1000000) :
  Calls Tryz.prog 221 #[.pointer s,v] w (OwnRes encS1 1 9 w (is'.map (textAt l))):=by
 have HS:=Lh h;have HI:=Lh hi;obtain⟨a,cap,rfl,h1,h2,hc⟩:=irow_at hv;unfold maxLen at h2;have HC:=Lh hc;clear h hv hi hc;go_enter Tryz.func221,Tryz.ntmps221;go_wp2;go_loopw [5,12] (fun v5 v12 wr=>TxRel w l is' v5 v12 wr) (fun _ v12 _=>is'.length - (intOf v12).toNat)
 case atStart=>exact⟨0,by omega,rfl,Lh (by rw [textsTo_zero];exact gown_nil _ _),Below.refl _ _⟩
 obtain⟨k,hk,rfl,HM,hbl⟩:=hrel;rename World=>wr
 by_cases hlt:k<is'.length
 rotate_left
 ·
  obtain rfl:k=is'.length:=by omega
  have HE:=HM.o;rw [textsTo_all] at HE;have HE2:=Lh HE;clear HE;go_wp2;go_ret;exact⟨_,rfl,HE2.o,hbl.o⟩
 obtain⟨b,off,rfl,sb,hcb⟩:=HC.o.resolve_left (by omega);obtain⟨i,hiu⟩:=gol hlt;obtain⟨sx,x0⟩:=hcb k i hiu _ hbl.o;obtain⟨x,hx⟩:=gol (HI.o i (List.mem_of_getElem? hiu));have HX:=Lh hx;have HSu:=Lh (textsTo_succ (l:=l) hiu);rw [textAt_get hx] at HSu;have hfl:=textsTo_len l is' k;have hN:(textsTo l is' k).length+1≤1099511627776:=by omega
 clear hcb hiu hx;go_wp2_with fail;refine(svertV_any s i x l R _ (HS.o.over hbl.o) HX.o).mono ?_;rintro e w2 ⟨rfl,hb2⟩;have HB2:=Lh (bvo hbl.o hb2);have HM2:=Lh (HM.o.over hb2);clear hb2 x0 sx;go_upto_region 6 with fail;have HA3:=Lh (anw w2 (cX x) 101);have HB3a:=Lh (bnew (w:=w2) (.cells (cX x) 101));generalize w2.alloc (.cells (cX x) 101)=w3 at *;have HB3:=Lh (bvo HB2.o HB3a.o);have HM3:=Lh (HM2.o.over HB3a.o);have hB3:=HB3.o.size;obtain⟨y0,y1,y2,y3,y4,y5,y6,y7,y8,sy⟩:=HA3.o.c9;go_wp2_with (at_builtin;refine apD slStrE rfl _ _ rfl w.heap.size _ _ (drf _) 1 _ _ _ HM3.o rfl rfl rfl rfl hN (by decide) hB3 ?_;intro v9 w9 ho9 hg9);go_roundw
 case rel=>exact⟨k+1,hlt,by go_num,(by show GOwn _ _ _ _ _ _ _;rw [HSu.o];exact GOwn.snoc ho9),bgr HB3.o hB3 HM3.o hg9⟩
 simp [intOf];omega
end
section
attribute [local irreducible] keptV1 minus keptTo textAt firmX
theorem ekeepsV_any(s:Option Addr)(wv:Value)(l:List VertM)(R:List (Nat × Nat))(want:List ByteArray)(w:World)(h:ShV w s l R)(hl:l.length≤1000)(hw:SRow w wv want)(hm:want.length≤1000) :
  Calls Tryz.prog 147 #[.pointer s,wv] w (KpRes w (keptTo (firmX l R) (pairs ((firmX l R).map (textAt l)) want) want.length)):=by
 have HS:=Lh h;have HW:=Lh hw;obtain⟨m,hmm⟩:∃ m,m=want.length:=⟨_,rfl⟩;obtain⟨a,cap,rfl,h1,h2,_⟩:=SRow.form hw;unfold maxLen at h2;rw [← hmm] at HW h1 hm ⊢;have HM:=Lh hmm;have HZ:=Lh (minus_zero m);have hq:8*m≤281474976710656:=by omega
 have hmx:m≤maxLen:=by unfold maxLen;omega
 have hfl:=firmX_len l R;clear h hw hmm;go_enter Tryz.func147,Tryz.ntmps147;go_upto_region 2 with(at_make;refine wpList_make_zeros slzIntE rfl _ _ rfl w.heap.size m _ rfl rfl rfl hq hmx (Nat.le_refl _) ?_;intro w1 ho1 hg1)
 have HB1:=Lh (grown_over' hg1 (fun g hg=>by cases hg));obtain⟨hA,_⟩:=own_full ho1;obtain⟨g,hg⟩:∃ g,g=w.heap.size:=⟨_,rfl⟩;rw [← hg] at hA ⊢;rw [← HZ.o] at hA;have HA:=Lh hA;have hgl:w.heap.size≤g:=by omega
 clear hA ho1 hg1 hg;go_wp2;go_loopw [15] (fun v15 wr=>K1Rel w g m v15 wr) (fun v15 _=>m - (intOf v15).toNat)
 case atStart=>exact⟨0,by omega,rfl,HA,HB1⟩
 obtain⟨j,hj,rfl,HA2,HB2⟩:=hrel;rename World=>wr;have sg:=HA2.o.arr.lt;have HL2:=Lh (minus_len j m)
 by_cases hlt:j<m
 ·
  have c0:=HA2.o.arr.cell (keptV1_get (minus_get (j:=j) hlt));have f0:=HA2.o.arr.free j;have HA3:=Lh (HA2.o.set j (.int .i64 (-1)));rw [keptV1_set,minus_set hlt] at HA3;have HB3:=Lh (HB2.o.setCell (p:=⟨g,j,none⟩) hgl (.int .i64 (-1)));go_wp2;go_roundw
  case rel=>exact⟨j+1,hlt,by go_num,HA3,HB3⟩
  simp [intOf];omega
 obtain rfl:m=j:=by omega
 have HS3:=Lh (HS.o.over HB2.o);have sg0:=sg;clear sg;go_wp2_with fail;refine(efirmV_any s l R _ HS3.o (by omega)).mono ?_;rintro e w3 ⟨fv,rfl,ho3,hb3⟩;obtain⟨a3,c3,rfl,z1,z2,hcf⟩:=irow_at ho3.row;unfold maxLen at z2;have HFR:=Lh ho3.row;have HFO:=Lh ho3;have hgB:=sg0;have HCF:=Lh hcf;have HB3:=Lh (bvo HB2.o hb3);have HA3:=Lh (HA2.o.over hb3);clear ho3 hcf hb3;go_wp2_with fail;refine(etextsV_any s _ l R (firmX l R) _ (HS.o.over HB3.o) HFR.o (fun i hi=>firmX_lt hi) (by omega)).mono ?_;rintro e w4 ⟨tv,rfl,ho4,hb4⟩;have HT4:=Lh (srow_of ho4.row);have HB4:=Lh (bvo HB3.o hb4);have HA4:=Lh (HA3.o.over hb4);have HB34:=Lh hb4;clear ho4 hb4;go_wp2_with fail;refine(match_any _ _ ((firmX l R).map (textAt l)) want _ HT4.o (by(have:=(HW.o.over HB4.o);exact this)) (by rw [texts_len];omega) (by rw [← HM.o];exact hm)).mono ?_;rintro e w5 ⟨mv,Bm,rfl,ho5,hB1,hB2,hb5⟩;have HPI:Hid (∀ p∈pairs ((firmX l R).map (textAt l)) want,p.1<(firmX l R).length∧p.2<m):=fun p hp=>by obtain⟨q1,q2,_⟩:=ePairs_in hp;rw [texts_len] at q1;exact⟨q1,by rw [HM.o];exact q2⟩
 obtain⟨ps,hps⟩:∃ ps,ps=pairs ((firmX l R).map (textAt l)) want:=⟨_,rfl⟩;rw [← hps] at ho5 HPI ⊢;have HO5:=Lh (show GOwn encP 2 169 w5 Bm mv ps from ho5);have HB5:=Lh (bvo HB4.o hb5);have HA5:=Lh (HA4.o.over hb5);have HFO5:=Lh ((HFO.o.over HB34.o).over hb5);obtain⟨a5,c5,rfl,y1,y2,_⟩:=prow_at HO5.o.row;unfold maxLen at y2;have HPS:=Lh hps;clear ho5 hb5 hps hB1 hB2;go_wp2;go_loopw [30] (fun v30 wq=>K2Rel w w5 g m (firmX l R) ps v30 wq) (fun v30 _=>ps.length - (intOf v30).toNat)
 case atStart=>exact⟨0,by omega,rfl,Lh (by rw [← kp_zero];exact HA5.o),World.grownBy.refl _ _,HB5⟩
 obtain⟨k,hk,rfl,HA6,HG6,HB6⟩:=hrel;rename World=>wq;have HO6:=Lh (own_kept HO5.o HG6.o (HA5.o.ne HO5.o (by decide)));have HFO6:=Lh (own_kept HFO5.o HG6.o (fun e=>by have:=gown_low HFO5.o e.symm;omega))
 by_cases hlt:k<ps.length
 rotate_left
 ·
  obtain rfl:k=ps.length:=by omega
  have HE:=HA6.o;rw [List.take_length] at HE;have HE2:=Lh HE;have HKL:=Lh (kept_length (firmX l R) ps m);clear HE;go_wp2;go_ret;refine⟨g,?_,hgl,(by rw [← HPS.o];exact HE2.o),HB6.o⟩;rw [← HPS.o,HKL.o];rfl
 obtain⟨a7,c7,e7,_,_,hc7⟩:=prow_at HO6.o.row;cases e7
 obtain⟨b7,off7,rfl,sb7,hcb7⟩:=hc7.resolve_left (by omega);obtain⟨p,hp⟩:=gol hlt;obtain⟨hp1,hp2⟩:=HPI.o p (List.mem_of_getElem? hp);have HP:=Lh (kept_succ (firm:=firmX l R) (m:=m) hp);obtain⟨sx,x0,x1⟩:=hcb7 k p hp _ (Below.refl _ _);obtain⟨ip,jp⟩:=p;simp only at hp1 hp2 x0 x1;obtain⟨fi,hfi⟩:=gol hp1;have HFI:=Lh hfi;clear hcb7 hp;go_upto_region 11 with fail;have HA8:=Lh (anw wq #[.int .i64 ip,.int .i64 jp] 169);have HB8a:=Lh (bnew (w:=wq) (.cells #[.int .i64 ip,.int .i64 jp] 169));generalize wq.alloc (.cells #[.int .i64 ip,.int .i64 jp] 169)=w8 at *;clear x0 x1 sx;have HAg:=Lh (HA6.o.over HB8a.o);have HFO8:=Lh (HFO6.o.over HB8a.o);have HB8:=Lh (bvo HB6.o HB8a.o);have HG8:=Lh (gtr HG6.o (grown_of_below HB8a.o (row:=some g)));obtain⟨af,cf,ef,_,_,hcf2⟩:=irow_at HFO8.o.row;cases ef
 obtain⟨bf,offf,rfl,sbf,hcbf⟩:=hcf2.resolve_left (by omega);obtain⟨sf,f0⟩:=hcbf ip fi hfi _ (Below.refl _ _);obtain⟨p0,p1,sp⟩:=HA8.o.c2;have hkl:=kept_length (firmX l R) (ps.take k) m;obtain⟨y,hy⟩:=gol (xs:=keptTo (firmX l R) (ps.take k) m) (i:=jp) (by rw [hkl];exact hp2);have g0:=HAg.o.arr.cell (keptV1_get hy);have gf:=HAg.o.arr.free jp;have sg:=HAg.o.arr.lt;have HN:=Lh (HAg.o.set jp (.int .i64 fi));rw [keptV1_set,show((fi:Nat):Int)=(((firmX l R).getD (ip,jp).1 0:Nat):Int) by rw [getD_of hfi]] at HN;rw [← HP.o] at HN;have HBn:=Lh (HB8.o.setCell (p:=⟨g,jp,none⟩) hgl (.int .i64 fi));have HGn:=Lh (gtr HG8.o (gsc (g:=g) w8 jp (.int .i64 fi)));have HEq:Hid ((((firmX l R).getD (ip,jp).1 0:Nat):Int)=(fi:Int)):=by show _=_;rw [getD_of hfi]
 rw [HEq.o] at HN;clear hcbf hfi hy hkl hcf2;go_wp2_with fail;refine wlo 9 fun hcur=>?_;repeat refine lxq ?_
 refine lxe ?_;clear hcur;go_wp2;go_roundw
 case rel=>exact⟨k+1,hlt,by go_num,Lh (HN.o.over (Below.refl _ _).drew),Lh (gtr HGn.o (grown_of_below (Below.refl _ _).drew)),Lh HBn.o.drew⟩
 simp [intOf];omega
end
section
attribute [local irreducible] hereF killsE keptV1 aliveX killV5
theorem ekillsV_any(s:Option Addr)(g:Nat)(l:List VertM)(R:List (Nat × Nat))(ks:List Int)(w:World)(h:ShV w s l R)(hl:l.length≤1000)(hk:ArrT w g 3 (keptV1 ks))(hok:∀ x∈ks,okInt x)(hkl:ks.length≤1000) :
  Calls Tryz.prog 148 #[.pointer s,.slice (some ⟨g,0,none⟩) ks.length ks.length] w (OwnRes encOp 8 76 w (killsE l (aliveX l R) ks)):=by
 have hmm:=@run_makeMap Tryz.prog;have HS:=Lh h;have HK:=Lh hk;have HOK:=Lh hok;have hal:=aliveX_len l R;have HT0:=Lh (show TMap Tryz.prog 3 numV okInt numV (w.alloc (.map #[] 0)) w.heap.size 0 (hereF ks 0) by rw [hereF_zero];exact TMap.made w);have HB0:=Lh (bnew (w:=w) (.map #[] 0));clear h hk hok;go_enter Tryz.func148,Tryz.ntmps148;go_upto_region 2 with fail;clear hmm;obtain⟨m,hm⟩:∃ m,m=w.heap.size:=⟨_,rfl⟩;rw [← hm];have HT1:=HT0.o;have hml:w.heap.size≤m:=by omega
 rw [← hm] at HT1;have HT:=Lh HT1;generalize w.alloc (.map #[] 0)=w0 at *;clear hm HT1 HT0;go_wp2;go_loopw [16] (fun v16 wr=>I1Rel w m ks v16 wr) (fun v16 _=>ks.length - (intOf v16).toNat)
 case atStart=>exact⟨0,0,by omega,by omega,rfl,HT,HB0⟩
 obtain⟨k,N,hk,hN,rfl,HM,HB⟩:=hrel;rename World=>wr;have HKr:=Lh (HK.o.over HB.o);have sg:=HKr.o.arr.lt
 by_cases hlt:k<ks.length
 ·
  obtain⟨x,hx⟩:=gol hlt;have c0:=HKr.o.arr.cell (keptV1_get hx);have HO:=Lh (HOK.o x (List.mem_of_getElem? hx));have HSu:=Lh (hereF_succ hx);clear hx;go_wp2_with (refine wpList_tstore keysInt numV_inj rfl _ _ _ _ rfl Tryz.underlying279 m N (hereF ks k) rfl HM.o (by unfold maxLen;omega) x rfl HO.o 1 rfl ?_;intro w10 hm10 hg10 hs10;clear hs10);rw [HSu.o] at hm10;have HM2:=Lh hm10;have HBn:=Lh (HB.o.grown hg10 HB.o.size fun q hq=>by cases hq;exact hml);go_roundw
  case rel=>exact⟨k+1,N+1,hlt,by omega,by go_num,HM2,HBn⟩
  simp [intOf];omega
 obtain rfl:k=ks.length:=by omega
 clear sg;go_wp2_with fail;refine(saliveV_any s l R _ (HS.o.over HB.o) (by omega)).mono ?_;rw [sares_is];rintro e w1 ⟨v,rfl,ho,hb⟩;obtain⟨a,cap,rfl,h1,h2,hc⟩:=irow_at ho.row;unfold maxLen at h2;have HC:=Lh hc;have HB1:=Lh (bvo HB.o hb);have HM1:=Lh (HM.o.over hb);have HAL:Hid (∀ i∈aliveX l R,i<l.length):=fun i hi=>aliveX_lt hi;clear ho hc hb;generalize aliveX l R=al at *;go_wp2;go_loopw [8,26] (fun v8 v26 wq=>I2Rel w1 l al ks v8 v26 wq) (fun _ v26 _=>al.length - (intOf v26).toNat)
 case atStart=>exact⟨0,by omega,rfl,Lh (by rw [kills_zero];exact gown_nil _ _),Below.refl _ _⟩
 obtain⟨q,hq,rfl,HO,hbl⟩:=hrel;rename World=>wq;have hkl2:=kills_len l ks (al.take q);have hkl3:(al.take q).length≤al.length:=by rw [List.length_take];omega
 by_cases hlt:q<al.length
 rotate_left
 ·
  obtain rfl:q=al.length:=by omega
  have HE:=HO.o;rw [List.take_length] at HE;have HE2:=Lh (HE.base HB1.o.size);clear HE;go_wp2;go_ret;exact⟨_,rfl,HE2.o,bvo HB1.o hbl.o⟩
 obtain⟨b,off,rfl,sb,hcb⟩:=HC.o.resolve_left (by omega);obtain⟨i,hi⟩:=gol hlt;obtain⟨sx,x0⟩:=hcb q i hi _ hbl.o;obtain⟨x,hx⟩:=gol (HAL.o i (List.mem_of_getElem? hi));have HX:=Lh hx;have HI:=Lh hi;have HKV:=Lh (killV5_at hx);have hil:=(List.getElem?_eq_some_iff.1 hx).1;have HOi:=Lh (ok_int (i:=i) (by omega));clear hcb hi hx;go_wp2_with fail;refine(svertV_any s i x l R _ (HS.o.over (bvo HB1.o hbl.o)) HX.o).mono ?_;rintro e w2 ⟨rfl,hb2⟩;have HB2:=Lh (bvo hbl.o hb2);have HO2:=Lh (HO.o.over hb2);clear hb2 x0 sx;go_upto_region 12 with fail;have HA3:=Lh (anw w2 (cX x) 101);have HB3a:=Lh (bnew (w:=w2) (.cells (cX x) 101));generalize w2.alloc (.cells (cX x) 101)=w3 at *;have HB3:=Lh (bvo HB2.o HB3a.o);have HO3:=Lh (HO2.o.over HB3a.o);have HM3:=Lh (HM1.o.over HB3.o);have hB3:=HB3.o.size;obtain⟨y0,y1,y2,y3,y4,y5,y6,y7,y8,sy⟩:=HA3.o.c9;cases hcn:ks.contains (Int.ofNat i) with
 | true =>
  have HLK:=Lh (hereF_yes hcn);have HN:=Lh (kills_no (l:=l) HI.o hcn);clear hcn;go_wp2_with (refine wpList_tlookV keysInt numV_inj rfl _ _ _ rfl Tryz.underlying279 0 (zero_numV _) m N (hereF ks ks.length) rfl HM3.o (i:Int) rfl HOi.o _ HLK.o ?_);go_roundw
  case rel=>exact⟨q+1,hlt,by go_num,(by show GOwn _ _ _ _ _ _ _;rw [HN.o];exact HO3.o),HB3⟩
  simp [intOf];omega
 | false =>
  have HLK:=Lh (hereF_no hcn);have HN:=Lh (kills_yes (l:=l) HI.o hcn);have hN3:(killsE l (al.take q) ks).length+1≤1099511627776:=by omega
  clear hcn;go_wp2_with (first|(refine wpList_tlookV keysInt numV_inj rfl _ _ _ rfl Tryz.underlying279 0 (zero_numV _) m N (hereF ks ks.length) rfl HM3.o (i:Int) rfl HOi.o _ HLK.o ?_)|(at_builtin;refine apD slOp rfl _ _ rfl w1.heap.size _ _ (drf _) 1 _ _ _ HO3.o rfl rfl rfl rfl hN3 (by decide) hB3 ?_;intro v9 w9 ho9 hg9));go_roundw
  case rel=>exact⟨q+1,hlt,by go_num,(by show GOwn _ _ _ _ _ _ _;rw [HN.o,HKV.o];exact GOwn.snoc ho9),bgr HB3.o hB3 HO3.o hg9⟩
  simp [intOf];omega
end
section
attribute [local irreducible] keptV1 keptTo textAt firmX aliveX killsE addsTo tiesTo atL
theorem eopsV_any(s:Option Addr)(wv:Value)(l:List VertM)(R:List (Nat × Nat))(file:VidM)(id:PidM)(from':Nat)(want:List ByteArray)(w:World)(h:ShV w s l R)(hl:l.length≤1000)(hw:SRow w wv want)(hm:want.length≤1000)(hf:from'≤4000000) :
  Calls Tryz.prog 85 #[.pointer s,vidV file,pidV id,.int .i64 from',wv] w (OwnRes encOp 8 76 w (editM l R (aliveX l R) (firmX l R) file id from' want (pairs ((firmX l R).map (textAt l)) want))):=by
 rw [edit_eq];have HBX:=(bnew (w:=w) (.cells (cV file) 74)).alloc (by simp) (.cells (cP id) 25);have HS:=Lh (h.over HBX);have HW:=Lh (hw.over HBX);have HF:=Lh ((anw w (cV file) 74).alloc (.cells (cP id) 25));have HI:=Lh (an2 w (.cells (cV file) 74) (cP id) 25);have HB:=Lh HBX;obtain⟨wa,wc,rfl,z1,z2,_⟩:=SRow.form hw;unfold maxLen at z2;clear h hw HBX;unfold vidV pidV;go_enter Tryz.func85,Tryz.ntmps85;go_upto_region 1 with fail;generalize (w.alloc (.cells (cV file) 74)).alloc (.cells (cP id) 25)=w0 at *;go_wp2_with fail;refine(ekeepsV_any s _ l R want _ HS.o hl HW.o hm).mono ?_;generalize hks:keptTo (firmX l R) (pairs ((firmX l R).map (textAt l)) want) want.length=ks;have HKI:Hid (∀(j:Nat) (x:Int),ks[j]? = some x→x = -1∨∃ i:Nat,x=(i:Int)∧i<l.length):=fun j x hx=>by
  rw [← hks] at hx;refine kept_is (fun i hi=>firmX_lt hi) ?_ hx;rcases Nat.eq_zero_or_pos l.length with h0|h0
  · refine .inr (List.eq_nil_iff_forall_not_mem.2 fun p hp => ?_);have h1:=(ePairs_in hp).1;rw [texts_len] at h1;have:=firmX_len l R;omega
  exact .inl h0
 have hkl:ks.length=want.length:=by rw [← hks];exact kept_length _ _ _
 have HKL:=Lh hkl;have HKS:=Lh hks;clear hks;rintro e w1 ⟨gK,rfl,hgK,hA,hb1⟩;have HA1:=Lh hA;have HB1:=Lh hb1;have HOK:Hid (∀ x∈ks,okInt x):=fun x hx=>by
  obtain⟨j,hj⟩:=List.getElem?_of_mem hx;rcases HKI.o j x hj with rfl|⟨i,rfl,hi⟩
  · unfold okInt;omega
  exact ok_int (by omega)
 clear hA hb1;rw [hkl];go_wp2_with fail;refine(hkl▸ekillsV_any s gK l R ks _ (HS.o.over HB1.o) hl HA1.o HOK.o (by omega)).mono ?_;have hkil:=Nat.le_trans (kills_len l ks (aliveX l R)) (aliveX_len l R);generalize hkill:killsE l (aliveX l R) ks=kl at *;have HKLL:=Lh hkill;clear hkill;rintro e w2 ⟨v12,rfl,ho2,hb2⟩;have HO2:=Lh (ho2.base HB1.o.size);have HB2:=Lh (bvo HB1.o hb2);have HA2:=Lh (HA1.o.over hb2);clear ho2 hb2 hkl;obtain⟨m,hmm⟩:∃ m,m=want.length:=⟨_,rfl⟩;rw [← hmm] at hm ⊢;have HMM:=Lh hmm;have hmx:m≤maxLen:=by unfold maxLen;omega
 obtain⟨ti,tz,t1,t2,t3,t4,t5,t6,t7⟩:=slVidE.out;have hz:((Tryz.prog.info? 74).bind (·.zero))=some (.agg #[.int .u8 0,.int .u16 0,.int .u8 0]):=by kernel_rfl
 rw [t2] at hz;have hz2:tz=.agg #[.int .u8 0,.int .u16 0,.int .u8 0]:=by have:ti.zero=some (.agg #[.int .u8 0,.int .u16 0,.int .u8 0]):=hz;rw [t3] at this;exact Option.some.inj this
 subst hz2;have hbm:ti.bytes*m≤281474976710656:=by rw [t5];omega
 have HT:=Lh (And.intro t2 (And.intro t3 (And.intro t4 hbm)));clear hmm hz t1 t2 t3 t4 t5 t6 t7 hbm;go_upto_region 4 with(at_make;refine wpList_make_full _ rfl _ _ _ rfl w2.heap.size 74 ti _ 3 Tryz.underlying148 HT.o.1 HT.o.2.1 HT.o.2.2.1 .i64 .i64 _ _ m rfl rfl rfl rfl HT.o.2.2.2 hmx (Nat.le_refl _) ?_;intro w3 ho3 hg3)
 have HB3a:=Lh (grown_over' hg3 (fun g hg=>by cases hg));have hA3:=(own_fullN ho3).1;rw [show(Value.agg #[.int .u8 0,.int .u16 0,.int .u8 0]).cells=#[.int .u8 0,.int .u16 0,.int .u8 0] from rfl,vids_cells] at hA3;have hgl:w0.heap.size≤w2.heap.size:=HB2.o.size;have hne:gK≠w2.heap.size:=by have:=HA2.o.arr.lt;omega
 obtain⟨gA,hgA0⟩:∃ gA,gA=w2.heap.size:=⟨_,rfl⟩;rw [← hgA0] at hA3 hgl hne ⊢;obtain⟨p0,c0,rfl⟩:=oown_form HO2.o;have HMid0:Hid (MidE w3 w0 gK gA m 0 ks p0 c0 kl []):=⟨HA2.o.over HB3a.o,(by rw [atL_zero];exact hA3),HO2.o.over HB3a.o,bvo HB2.o HB3a.o⟩;clear hA3 ho3 hg3 hgA0 HB3a HT HA2 HO2 HA1;go_wp2;go_loopw [12,30] (fun v12 v30 wr=>A1Rel w0 l file id from' ks want kl gK gA m v12 v30 wr) (fun _ v30 _=>m - (intOf v30).toNat)
 case atStart=>exact⟨0,kl,[],p0,c0,by omega,rfl,rfl,Lh adds_zero.symm,HMid0⟩
 obtain⟨j,ops,at',p,c,hj,rfl,rfl,HAD,HMid⟩:=hrel;rename World=>wr;obtain⟨hal,hol⟩:=adds_both HKL.o (by rw [← HMM.o];exact hj) HAD.o;have HAL:=Lh hal;have sk:=HMid.o.kept.arr.lt;clear hal
 by_cases hlt:j<m
 ·
  obtain⟨x,hx⟩:=gol (xs:=ks) (i:=j) (by rw [HKL.o,← HMM.o];exact hlt);obtain⟨t,ht⟩:=gol (xs:=want) (i:=j) (by rw [← HMM.o];exact hlt);have k0:=HMid.o.kept.arr.cell (keptV1_get hx);obtain⟨y,hy⟩:=gol (xs:=atL at' j m) (i:=j) (by rw [atL_len HAL.o hj];exact hlt);have HY:=Lh hy;have HX:=Lh hx;have HTx:=Lh ht;have HBw:=Lh HMid.o.below;clear hy ht;rcases HKI.o j x hx with hx1|⟨i,hx1,hil⟩
  rotate_left
  ·
   subst hx1;obtain⟨x,hxv⟩:=gol hil;have HXv:=Lh hxv;have HAD2:=Lh (adds_next1 HX.o HTx.o hxv HAD.o);clear hx hxv;go_wp2_with fail;refine(svertV_any s i x l R _ (HS.o.over HBw.o) HXv.o).mono ?_;rintro e w4 ⟨rfl,hb4⟩;have HMid4:=Lh (HMid.o.over hb4);clear hb4 k0 sk;go_upto_region 9 with fail;have HA5:=Lh (anw w4 (cX x) 101);have HB5:=Lh (bnew (w:=w4) (.cells (cX x) 101));generalize w4.alloc (.cells (cX x) 101)=w5 at *;have HMid5:=Lh (HMid4.o.over HB5.o);obtain⟨y0,y1,y2,y3,y4,y5,y6,y7,y8,sy⟩:=HA5.o.c9;go_wp2_with ((with_reducible show wpList _ _ _ ({dst:=_,op:=.store _ _ _,type:=_,pos:=_,after:=_,guard:=_} :: _) _ _);refine wpList_store_arrN rowVidE rfl _ _ rfl HMid5.o.names (atL_flat HAL.o hj) hmx (j*3) (encVid x.id) rfl rfl rfl (by rw [encVid_len];omega) (oneVid x.id) ?_;intro w6 hA5 hg5);have HMid6:=Lh (HMid5.o.name HAL.o hlt hgl hne hA5 hg5);clear hA5 hg5;go_roundw
   case rel=>exact⟨j+1,ops,_,p,c,hlt,by go_num,rfl,HAD2,HMid6⟩
   simp [intOf];omega
  subst hx1;have HI4:=Lh (HI.o.over HBw.o);obtain⟨i0,i1,si⟩:=HI4.o.c2;obtain⟨N,hN⟩:∃ N,from'+ops.length=N:=⟨_,rfl⟩;have eN:((from':Int)+(ops.length:Int))=(N:Int):=by omega
  have hNl:N<4611686018427387904:=by omega
  have HN:=Lh hN;clear hx hN;go_wp2_with fail;refine(pvid_any id N _ hNl).mono ?_;rintro e w4 ⟨rfl,hb4⟩;have HMid4:=Lh (HMid.o.over hb4);clear hb4 k0 sk i0 i1 si eN;go_upto_region 11 with((with_reducible show wpList _ _ _ ({dst:=_,op:=.store _ _ _,type:=_,pos:=_,after:=_,guard:=_} :: _) _ _);refine wpList_store_arrN rowVidE rfl _ _ rfl HMid4.o.names (atL_flat HAL.o hj) hmx (j*3) (encVid ⟨id,UInt8.ofNat N⟩) rfl rfl rfl (by rw [encVid_len];omega) (oneVid ⟨id,UInt8.ofNat N⟩) ?_;intro w5 hA5 hg5)
  have HMid5:=Lh (HMid4.o.name HAL.o hlt hgl hne hA5 hg5);clear hA5 hg5;have HF5:=Lh (HF.o.over HMid5.o.below);obtain⟨f0,f1,f2,sf⟩:=HF5.o.c3;obtain⟨wa2,wc2,e2,_,_,_,hcw⟩:=SRow.form (HW.o.over HMid5.o.below);cases e2
  obtain⟨bw,offw,rfl,sbw,hcw2⟩:=hcw.resolve_left (by rw [← HMM.o];omega);have w0c:=hcw2 j t HTx.o;have hN5:ops.length+1≤1099511627776:=by omega
  have hB5:=HMid5.o.below.size;have HOw:=Lh HMid5.o.own;obtain⟨ops9,hops9⟩:∃ y,y=ops++[(⟨3,file,noVid,t⟩:OpM)]:=⟨_,rfl⟩;have HO9e:=Lh hops9;have HAD2:=Lh (adds_next2 HX.o HTx.o HAD.o);rw [HN.o,← hops9] at HAD2;clear hcw hcw2 hops9;go_simp;refine wlo 8 fun hcur=>?_;repeat(first|refine lxq ?_|(refine lxl rfl ?_;go_wp2_with (first|(fail));refine⟨iov (by first|exact hcur|exact hcur.alloc hcur.size _),?_⟩))
  refine lxe ?_;clear hcur;go_wp2_with ((at_builtin;refine apD slOp rfl _ _ rfl w0.heap.size _ _ (dad _ _ _) 1 _ _ _ HOw.o rfl rfl rfl rfl hN5 (by decide) hB5 ?_;intro v9 w9 ho9 hg9);(obtain⟨p9,c9,e9,hO9⟩:=oown_more (GOwn.snoc (x:=(⟨3,file,noVid,t⟩:OpM)) ho9) HO9e.o);subst e9;have HO9:=Lh hO9;have HG9:=Lh hg9;clear ho9 hg9 hO9);go_roundw
  case rel=>exact⟨j+1,ops9,_,p9,c9,hlt,by go_num,rfl,HAD2,HMid5.o.op HO9.o HG9.o⟩
  simp [intOf];omega
 obtain rfl:m=j:=by omega
 have hal2:=HAL.o;have HA2e:=HMid.o;obtain⟨at2,hat2⟩:∃ at2,at2=at':=⟨_,rfl⟩;rw [← hat2] at HAD HA2e hal2;have HAL2:=Lh hal2;have HMd:=Lh HA2e;have htl:=ties_len R ks at2;have HTL:=Lh htl;clear HA2e hal2 hat2 sk htl;go_wp2;go_loopw [12,69] (fun v12 v69 wq=>A2Rel w0 R ks at2 ops gK gA m v12 v69 wq) (fun _ v69 _=>m - (intOf v69).toNat)
 case atStart=>exact⟨0,ops,p,c,by omega,rfl,rfl,Lh (by rw [ties_zero,List.append_nil]),HMd⟩
 obtain⟨q,ops2,p2,c2,hq,rfl,rfl,HO2,HM2⟩:=hrel;rename World=>wq;have hol2:ops2.length≤ops.length+m:=by rw [HO2.o,List.length_append];have:=HTL.o q;omega
 have sk:=HM2.o.kept.arr.lt
 by_cases hlt:q<m
 rotate_left
 ·
  obtain rfl:m=q:=by omega
  have HE:=Lh (HM2.o.own.base HB.o.size);have HBe:=Lh (bvo HB.o HM2.o.below);go_wp2;go_ret;exact⟨_,rfl,(by rw [HKS.o,HKLL.o,← HMM.o,← HAD.o];show GOwn _ _ _ _ _ _ (ops++tiesTo R ks at2 m);rw [← HO2.o];exact HE.o),HBe.o⟩
 by_cases hq0:q=0
 ·
  subst hq0;have HN:Hid (ops2=ops++tiesTo R ks at2 1):=by show _=_;rw [HO2.o,ties_zero,ties_one]
  go_wp2_with fail;refine wlo 32 fun hcur=>?_;repeat refine lxq ?_
  refine lxe ?_;clear hcur;go_wp2;go_roundw
  case rel=>exact⟨1,ops2,p2,c2,hlt,by go_num,rfl,HN,HM2.o.over (Below.refl _ _).drew⟩
  simp [intOf];omega
 obtain⟨q,rfl⟩:∃ k,q=k+1:=⟨q - 1,by omega⟩;obtain⟨x,hx⟩:=gol (xs:=ks) (i:=q) (by rw [HKL.o,← HMM.o];omega);obtain⟨y,hy⟩:=gol (xs:=ks) (i:=q+1) (by rw [HKL.o,← HMM.o];exact hlt);obtain⟨u,hu⟩:=gol (xs:=at2) (i:=q) (by rw [HAL2.o];omega);obtain⟨v,hv⟩:=gol (xs:=at2) (i:=q+1) (by rw [HAL2.o];exact hlt);have k0:=HM2.o.kept.arr.cell (keptV1_get hx);have k1:=HM2.o.kept.arr.cell (keptV1_get hy);have HX:=Lh hx;have HYY:=Lh hy;have HU:=Lh hu;have HVV:=Lh hv;have HSq:=Lh (HS.o.over HM2.o.below);have HM3:=Lh (HM2.o.over (Below.refl wq.heap.size wq).drew);have hN5:ops2.length+1≤1099511627776:=by omega
 have dq:decide ((0:Int)<(q:Int)+1)=true:=decide_eq_true (by omega);clear hu hv hq0;rcases HKI.o q x hx with hx1|⟨i,hx1,hil⟩
 ·
  subst hx1;have HN:=Lh (ties_yes (R:=R) HX.o HYY.o HU.o HVV.o (.inl (by decide)));clear hx hy;go_wp2_with fail;refine wlo 32 fun hcur=>?_;repeat refine lxq ?_
  refine lxe ?_;clear hcur;generalize wq.drew=wd at *;clear k0 k1 sk;have HNm:=Lh (show ArrT wd gA 74 (at2.flatMap encVid) by(have hnm:=HM3.o.names;rw [atL_all] at hnm;exact hnm));have n0:wd.cell? ⟨gA,q*3,none⟩=some (.int .u8 u.pid.author.toNat):=HNm.o.arr.cell ((flat_get encVid_len _ q 0 u HU.o (by decide)).trans rfl);have n1:wd.cell? ⟨gA,q*3+1,none⟩=some (.int .u16 u.pid.seq.toNat):=HNm.o.arr.cell ((flat_get encVid_len _ q 1 u HU.o (by decide)).trans rfl);have n2:wd.cell? ⟨gA,q*3+2,none⟩=some (.int .u8 u.n.toNat):=HNm.o.arr.cell ((flat_get encVid_len _ q 2 u HU.o (by decide)).trans rfl);have n3:wd.cell? ⟨gA,(q+1)*3,none⟩=some (.int .u8 v.pid.author.toNat):=HNm.o.arr.cell ((flat_get encVid_len _ (q+1) 0 v HVV.o (by decide)).trans rfl);have n4:wd.cell? ⟨gA,(q+1)*3+1,none⟩=some (.int .u16 v.pid.seq.toNat):=HNm.o.arr.cell ((flat_get encVid_len _ (q+1) 1 v HVV.o (by decide)).trans rfl);have n5:wd.cell? ⟨gA,(q+1)*3+2,none⟩=some (.int .u8 v.n.toNat):=HNm.o.arr.cell ((flat_get encVid_len _ (q+1) 2 v HVV.o (by decide)).trans rfl);have sn:=HNm.o.arr.lt;have hB5:=HM3.o.below.size;have HOw:=Lh HM3.o.own;obtain⟨ops9,hops9⟩:∃ z,z=ops2++[(⟨4,u,v,⟨#[]⟩⟩:OpM)]:=⟨_,rfl⟩;have HO9e:=Lh hops9;have HN9:Hid (ops9=ops++tiesTo R ks at2 (q+1+1)):=by show _=_;rw [HN.o,← List.append_assoc,← HO2.o];exact hops9
  clear hops9;go_wp2_with fail;refine wlo 12 fun hcur=>?_;repeat(first|refine lxq ?_|(refine lxl rfl ?_;go_wp2_with (first|(fail));refine⟨iov (by first|exact hcur|exact hcur.alloc hcur.size _),?_⟩))
  refine lxe ?_;clear hcur;go_wp2_with ((at_builtin;refine apD slOp rfl _ _ rfl w0.heap.size _ _ (dad _ _ _) 1 _ _ _ HOw.o rfl rfl rfl rfl hN5 (by decide) hB5 ?_;intro v9 w9 ho9 hg9);(obtain⟨p9,c9,e9,hO9⟩:=oown_more (GOwn.snoc (x:=(⟨4,u,v,⟨#[]⟩⟩:OpM)) ho9) HO9e.o);subst e9;have HO9:=Lh hO9;have HG9:=Lh hg9;clear ho9 hg9 hO9);go_roundw
  case rel=>exact⟨q+1+1,ops9,p9,c9,hlt,by go_num,rfl,HN9,HM3.o.op HO9.o HG9.o⟩
  simp [intOf];omega
 subst hx1;have ei:decide ((i:Int)<0)=false:=decide_eq_false (by omega);rcases HKI.o (q+1) y hy with hy1|⟨i2,hy1,hil2⟩
 ·
  subst hy1;have HN:=Lh (ties_yes (R:=R) HX.o HYY.o HU.o HVV.o (.inr (.inl (by decide))));clear hx hy;go_wp2_with fail;refine wlo 32 fun hcur=>?_;repeat refine lxq ?_
  refine lxe ?_;clear hcur;generalize wq.drew=wd at *;clear k0 k1 sk;have HNm:=Lh (show ArrT wd gA 74 (at2.flatMap encVid) by(have hnm:=HM3.o.names;rw [atL_all] at hnm;exact hnm));have n0:wd.cell? ⟨gA,q*3,none⟩=some (.int .u8 u.pid.author.toNat):=HNm.o.arr.cell ((flat_get encVid_len _ q 0 u HU.o (by decide)).trans rfl);have n1:wd.cell? ⟨gA,q*3+1,none⟩=some (.int .u16 u.pid.seq.toNat):=HNm.o.arr.cell ((flat_get encVid_len _ q 1 u HU.o (by decide)).trans rfl);have n2:wd.cell? ⟨gA,q*3+2,none⟩=some (.int .u8 u.n.toNat):=HNm.o.arr.cell ((flat_get encVid_len _ q 2 u HU.o (by decide)).trans rfl);have n3:wd.cell? ⟨gA,(q+1)*3,none⟩=some (.int .u8 v.pid.author.toNat):=HNm.o.arr.cell ((flat_get encVid_len _ (q+1) 0 v HVV.o (by decide)).trans rfl);have n4:wd.cell? ⟨gA,(q+1)*3+1,none⟩=some (.int .u16 v.pid.seq.toNat):=HNm.o.arr.cell ((flat_get encVid_len _ (q+1) 1 v HVV.o (by decide)).trans rfl);have n5:wd.cell? ⟨gA,(q+1)*3+2,none⟩=some (.int .u8 v.n.toNat):=HNm.o.arr.cell ((flat_get encVid_len _ (q+1) 2 v HVV.o (by decide)).trans rfl);have sn:=HNm.o.arr.lt;have hB5:=HM3.o.below.size;have HOw:=Lh HM3.o.own;obtain⟨ops9,hops9⟩:∃ z,z=ops2++[(⟨4,u,v,⟨#[]⟩⟩:OpM)]:=⟨_,rfl⟩;have HO9e:=Lh hops9;have HN9:Hid (ops9=ops++tiesTo R ks at2 (q+1+1)):=by show _=_;rw [HN.o,← List.append_assoc,← HO2.o];exact hops9
  clear hops9;go_wp2_with fail;refine wlo 12 fun hcur=>?_;repeat(first|refine lxq ?_|(refine lxl rfl ?_;go_wp2_with (first|(fail));refine⟨iov (by first|exact hcur|exact hcur.alloc hcur.size _),?_⟩))
  refine lxe ?_;clear hcur;go_wp2_with ((at_builtin;refine apD slOp rfl _ _ rfl w0.heap.size _ _ (dad _ _ _) 1 _ _ _ HOw.o rfl rfl rfl rfl hN5 (by decide) hB5 ?_;intro v9 w9 ho9 hg9);(obtain⟨p9,c9,e9,hO9⟩:=oown_more (GOwn.snoc (x:=(⟨4,u,v,⟨#[]⟩⟩:OpM)) ho9) HO9e.o);subst e9;have HO9:=Lh hO9;have HG9:=Lh hg9;clear ho9 hg9 hO9);go_roundw
  case rel=>exact⟨q+1+1,ops9,p9,c9,hlt,by go_num,rfl,HN9,HM3.o.op HO9.o HG9.o⟩
  simp [intOf];omega
 subst hy1;have ei2:decide ((i2:Int)<0)=false:=decide_eq_false (by omega);clear hx hy;cases hb:befB R i i2 with
 | true =>
  have HBV:=Lh hb;have HN:=Lh (ties_no (R:=R) (at':=at2) HX.o HYY.o (Int.natCast_nonneg i) (Int.natCast_nonneg i2) hb);clear hb;go_wp2_with fail;refine wlo 32 fun hcur=>?_;repeat(first|refine lxq ?_|(refine lxl rfl ?_;go_wp2_with (first|(go_at_call 117;(with_reducible refine(srelV_any s l R _ (HSq.o.over hcur) (by omega)).mono ?_);rintro e w' ⟨⟨r,rfl,hr⟩,rfl⟩;have HRL:=Lh hr;clear hr)|(go_at_call 150;(with_reducible refine(rchBefore_any r l.length i i2 R _ HRL.o (by omega) (by omega)).mono ?_);rintro e w' ⟨rfl,rfl⟩;rw [HBV.o]));refine⟨iov hcur,?_⟩))
  refine lxe ?_;clear hcur;go_wp2;go_roundw
  case rel=>exact⟨q+1+1,ops2,p2,c2,hlt,by go_num,rfl,Lh (by rw [HN.o];exact HO2.o),HM3⟩
  simp [intOf];omega
 | false =>
  have HBV:=Lh hb;have HN:=Lh (ties_yes (R:=R) HX.o HYY.o HU.o HVV.o (.inr (.inr hb)));clear hb;go_wp2_with fail;refine wlo 32 fun hcur=>?_;repeat(first|refine lxq ?_|(refine lxl rfl ?_;go_wp2_with (first|(go_at_call 117;(with_reducible refine(srelV_any s l R _ (HSq.o.over hcur) (by omega)).mono ?_);rintro e w' ⟨⟨r,rfl,hr⟩,rfl⟩;have HRL:=Lh hr;clear hr)|(go_at_call 150;(with_reducible refine(rchBefore_any r l.length i i2 R _ HRL.o (by omega) (by omega)).mono ?_);rintro e w' ⟨rfl,rfl⟩;rw [HBV.o]));refine⟨iov hcur,?_⟩))
  refine lxe ?_;clear hcur;generalize wq.drew=wd at *;clear k0 k1 sk;have HNm:=Lh (show ArrT wd gA 74 (at2.flatMap encVid) by(have hnm:=HM3.o.names;rw [atL_all] at hnm;exact hnm));have n0:wd.cell? ⟨gA,q*3,none⟩=some (.int .u8 u.pid.author.toNat):=HNm.o.arr.cell ((flat_get encVid_len _ q 0 u HU.o (by decide)).trans rfl);have n1:wd.cell? ⟨gA,q*3+1,none⟩=some (.int .u16 u.pid.seq.toNat):=HNm.o.arr.cell ((flat_get encVid_len _ q 1 u HU.o (by decide)).trans rfl);have n2:wd.cell? ⟨gA,q*3+2,none⟩=some (.int .u8 u.n.toNat):=HNm.o.arr.cell ((flat_get encVid_len _ q 2 u HU.o (by decide)).trans rfl);have n3:wd.cell? ⟨gA,(q+1)*3,none⟩=some (.int .u8 v.pid.author.toNat):=HNm.o.arr.cell ((flat_get encVid_len _ (q+1) 0 v HVV.o (by decide)).trans rfl);have n4:wd.cell? ⟨gA,(q+1)*3+1,none⟩=some (.int .u16 v.pid.seq.toNat):=HNm.o.arr.cell ((flat_get encVid_len _ (q+1) 1 v HVV.o (by decide)).trans rfl);have n5:wd.cell? ⟨gA,(q+1)*3+2,none⟩=some (.int .u8 v.n.toNat):=HNm.o.arr.cell ((flat_get encVid_len _ (q+1) 2 v HVV.o (by decide)).trans rfl);have sn:=HNm.o.arr.lt;have hB5:=HM3.o.below.size;have HOw:=Lh HM3.o.own;obtain⟨ops9,hops9⟩:∃ z,z=ops2++[(⟨4,u,v,⟨#[]⟩⟩:OpM)]:=⟨_,rfl⟩;have HO9e:=Lh hops9;have HN9:Hid (ops9=ops++tiesTo R ks at2 (q+1+1)):=by show _=_;rw [HN.o,← List.append_assoc,← HO2.o];exact hops9
  clear hops9;go_wp2_with fail;refine wlo 12 fun hcur=>?_;repeat(first|refine lxq ?_|(refine lxl rfl ?_;go_wp2_with (first|(fail));refine⟨iov (by first|exact hcur|exact hcur.alloc hcur.size _),?_⟩))
  refine lxe ?_;clear hcur;go_wp2_with ((at_builtin;refine apD slOp rfl _ _ rfl w0.heap.size _ _ (dad _ _ _) 1 _ _ _ HOw.o rfl rfl rfl rfl hN5 (by decide) hB5 ?_;intro v9 w9 ho9 hg9);(obtain⟨p9,c9,e9,hO9⟩:=oown_more (GOwn.snoc (x:=(⟨4,u,v,⟨#[]⟩⟩:OpM)) ho9) HO9e.o);subst e9;have HO9:=Lh hO9;have HG9:=Lh hg9;clear ho9 hg9 hO9);go_roundw
  case rel=>exact⟨q+1+1,ops9,p9,c9,hlt,by go_num,rfl,HN9,HM3.o.op HO9.o HG9.o⟩
  simp [intOf];omega
end
end Go.Proofs.YtjccmcgglfncdaaGreatDoor
