/- What is proved: PlanSays, for every input; of the listed tables the walk needs the powers of ten. -/
import Derived.Test.YtjccmcgglfncdaaGreatDoorPEdV
set_option linter.unusedVariables false
set_option linter.unusedSimpArgs false
set_option maxRecDepth 100000
set_option maxHeartbeats 40000000
namespace Go.Proofs.YtjccmcgglfncdaaGreatDoor
open Go Go.RowKit
section
variable{l:List VertM}
theorem place_is:∀ {l:List VertM} {v:VidM} {k:Nat} {x:VertM},l[k]? = some x→x.id=v→(∀ j y,j<k→l[j]? = some y→y.id≠v)→placeM l v=k
 | [],_,k,_,hx,_,_=>by simp at hx
 | y :: l,v,0,x,hx,hid,_=>by simp at hx;subst hx;unfold placeM;rw [List.map_cons,hid,List.idxOf_cons_self]
 | y :: l,v,k+1,x,hx,hid,hno=>by have h0:y.id≠v:=hno 0 y (by omega) rfl;have ih:=place_is (l:=l) (v:=v) (k:=k) (x:=x) (by simpa using hx) hid (fun j z hj hz=>hno (j+1) z (by omega) (by simpa using hz));unfold placeM at ih ⊢;rw [List.map_cons,List.idxOf_cons,ih,show(y.id == v)=false from decide_eq_false h0];rfl
theorem no_step{v:VidM}{k:Nat}{x:VertM}(hx:l[k]? = some x)(hne:¬ x.id=v)(hno:∀ j y,j<k→l[j]? = some y→y.id≠v):∀ j y,j<k+1→l[j]? = some y→y.id≠v:=fun j y hj hy=>by
 rcases Nat.lt_or_ge j k with h|h
 · exact hno j y h hy
 ·
  obtain rfl:j=k:=by omega
  rw [hx] at hy;cases hy;exact hne
theorem r21place_any(lv:Value)(l:List VertM)(v:VidM)(w:World)(hv:GRow encVert 9 w lv l)(hm:v∈l.map (·.id)) :
  Calls Tryz.prog 106 #[lv,vidV v] w fun e w'=>e=.returned (.int .i64 (placeM l v:Int))∧Be w w':=by
 have gd:=fun p q xs ys w=>guard_vid .eql p q xs ys w;obtain⟨a,cap,rfl,h1,h2,hc⟩:=hv.at encVert_len;unfold maxLen at h2;have HC:=Lh hc;have HM:=Lh (place_get hm);have HF:=Lh (anw w (cV v) 74);have HB:=Lh (bnew (w:=w) (.cells (cV v) 74));clear hv hc hm;unfold vidV;go_enter Tryz.func106,Tryz.ntmps106;go_upto_region 1 with fail;generalize w.alloc (.cells (cV v) 74)=w0 at *;go_wp2;go_loopw [5] (fun v5 wr=>∃ k:Nat,k≤l.length∧v5=.int .i64 k∧Hid (∀ j y,j<k→l[j]? = some y→y.id≠v)∧Hid (Be w0 wr)) (fun v5 _=>l.length - (intOf v5).toNat)
 case atStart=>exact⟨0,by omega,rfl,Lh (fun j y hj=>absurd hj (Nat.not_lt_zero j)),Below.refl _ _⟩
 obtain⟨k,hk,rfl,HN,hbl⟩:=hrel;rename World=>wr;have HBr:=Lh (bvo HB.o hbl.o);have HFr:=Lh (HF.o.over hbl.o);obtain⟨f0,f1,f2,sf⟩:=HFr.o.c3
 by_cases hlt:k<l.length
 rotate_left
 · obtain⟨y,hy,hyv⟩:=HM.o;exact absurd hyv (HN.o (placeM l v) y (Nat.lt_of_lt_of_le (List.getElem?_eq_some_iff.1 hy).1 (by omega)) hy)
 obtain⟨b,off,rfl,sb,hcb⟩:=HC.o.resolve_left (by omega);obtain⟨x,hx⟩:=gol hlt;have HX:=Lh hx;have HRx:=Lh (hcb k x hx wr HBr.o);obtain⟨x0,x1,x2,x3,x4,x5,x6,x7,x8,sx⟩:=rc9 HRx.o;clear hcb hx
 by_cases he:x.id=v
 ·
  have e1:=eql_vid x.id v true (by simp [he]);unfold vidV at e1;have HV:=Lh (place_is HX.o he HN.o);clear he;go_wp2_with fail;refine wlo 7 fun hcur=>?_;repeat refine lxq ?_
  refine lxe ?_;clear hcur;go_wp2;go_ret;exact⟨ret_int (by rw [HV.o]),HBr.o.drew⟩
 have e1:=eql_vid x.id v false (by simp [he]);unfold vidV at e1;have HN2:=Lh (no_step HX.o he HN.o);clear he;go_wp2_with fail;refine wlo 7 fun hcur=>?_;repeat refine lxq ?_
 refine lxe ?_;clear hcur;go_wp2;go_roundw
 case rel=>exact⟨k+1,hlt,by go_num,HN2,Lh hbl.o.drew⟩
 simp [intOf];omega
abbrev rsV(lv:Value)(n:Nat)(sv:Value):Value:=.agg #[lv,.int .i64 n,sv]
structure RSh (w:World) (lv sv:Value) (l:List VertM) (R:List (Nat × Nat)):Prop where
 row:GRow encVert 9 w lv l
 rel:RRel w l.length sv R
theorem RSh.over{w w':World}{lv sv:Value}{R:List (Nat × Nat)}(h:RSh w lv sv l R)(hb:Be w w'):RSh w' lv sv l R:=⟨h.row.over hb,h.rel.over hb⟩
theorem RSh.form{w:World}{lv sv:Value}{R:List (Nat × Nat)}(h:RSh w lv sv l R):∃ lp lc sp sc,lv=.slice lp l.length lc∧sv=.slice sp R.length sc∧lc≤maxLen:=by obtain⟨a,cap,e1,_,h3,_⟩:=h.row.at encVert_len;obtain⟨a2,cap2,e2,_⟩:=prow_at h.rel.row;exact⟨a,cap,a2,cap2,e1,e2,h3⟩
attribute [local irreducible] orderM keptI aliveQL deadQL aliveX aliB firmB
theorem r21order_any(lv sv:Value)(l:List VertM)(R:List (Nat × Nat))(w:World)(h:RSh w lv sv l R):Calls Tryz.prog 170 #[rsV lv l.length sv] w (OwnRes encI 1 3 w (orderM R l.length)):=by obtain⟨lp,lc,sp,sc,rfl,rfl,hlc⟩:=h.form;unfold maxLen at hlc;have HS:=Lh (h.over (bnew (w:=w) (.cells #[.slice lp l.length lc,.int .i64 l.length,.slice sp R.length sc] 107)));have HG:=Lh (anw w #[.slice lp l.length lc,.int .i64 l.length,.slice sp R.length sc] 107);have HB:=Lh (bnew (w:=w) (.cells #[.slice lp l.length lc,.int .i64 l.length,.slice sp R.length sc] 107));clear h;unfold rsV;go_enter Tryz.func170,Tryz.ntmps170;go_upto_region 1 with fail;generalize w.alloc (.cells #[.slice lp l.length lc,.int .i64 l.length,.slice sp R.length sc] 107)=w0 at *;obtain⟨g0,g1,g2,sg⟩:=HG.o.c3;go_wp2_with fail;refine(r9order_any l.length _ R _ HS.o.rel).mono ?_;rintro e w1 ⟨v,rfl,ho,hb⟩;have HO:=Lh (ho.base HB.o.size);have HB1:=Lh (bvo HB.o hb);clear ho hb;go_wp2;go_ret;exact⟨_,rfl,HO.o,HB1.o⟩
def AvRel(w1:World)(l:List VertM)(od:List Nat)(v3 v5:Value)(wr:World):Prop:=∃ k:Nat,k≤od.length∧v5=.int .i64 k∧Hid (GOwn encI 1 3 wr w1.heap.size v3 (keptI l od k))∧Hid (Be w1 wr)
theorem keptI_zero(l:List VertM)(xs:List Nat):keptI l xs 0=[]:=by unfold keptI;rfl
theorem keptI_len(l:List VertM)(xs:List Nat)(k:Nat):(keptI l xs k).length≤xs.length:=by unfold keptI;refine Nat.le_trans (List.length_filter_le _ _) ?_;rw [List.length_take];exact Nat.min_le_right _ _
theorem aliveX_kept(l:List VertM)(R:List (Nat × Nat)):keptI l (orderM R l.length) (orderM R l.length).length=aliveX l R:=by unfold aliveX;exact keptI_all l _
theorem r21alive_any(lv sv:Value)(l:List VertM)(R:List (Nat × Nat))(w:World)(h:RSh w lv sv l R):Calls Tryz.prog 101 #[rsV lv l.length sv] w (OwnRes encI 1 3 w (aliveX l R)):=by
 have hroom:=h.rel.room;obtain⟨lp,lc,sp,sc,rfl,rfl,hlc⟩:=h.form;unfold maxLen at hlc;have HS:=Lh (h.over (bnew (w:=w) (.cells #[.slice lp l.length lc,.int .i64 l.length,.slice sp R.length sc] 107)));have HG:=Lh (anw w #[.slice lp l.length lc,.int .i64 l.length,.slice sp R.length sc] 107);have HB:=Lh (bnew (w:=w) (.cells #[.slice lp l.length lc,.int .i64 l.length,.slice sp R.length sc] 107));clear h;unfold rsV;go_enter Tryz.func101,Tryz.ntmps101;go_upto_region 1 with fail;generalize w.alloc (.cells #[.slice lp l.length lc,.int .i64 l.length,.slice sp R.length sc] 107)=w0 at *;obtain⟨g0,g1,g2,sg⟩:=HG.o.c3;go_wp2_with fail;refine(r21order_any _ _ l R _ HS.o).mono ?_;rintro e w1 ⟨ov,rfl,ho,hb⟩;obtain⟨a5,c5,rfl,z1,z2,hc5⟩:=irow_at ho.row;unfold maxLen at z2;have HC5:=Lh hc5;have HB1:=Lh hb;have HG1:=Lh (HG.o.over hb);have HS1:=Lh (HS.o.over hb);have HOl:Hid (∀ i∈orderM R l.length,i<l.length):=fun i hi=>order_lt hi;have HAK:=Lh (aliveX_kept l R);have hol:(orderM R l.length).length≤1000000:=by rw [orderM_len];omega
 generalize orderM R l.length=od at *;clear ho hb hc5 g0 g1 g2 sg;go_wp2;go_loopw [3,5] (fun v3 v5 wr=>AvRel w1 l od v3 v5 wr) (fun _ v5 _=>od.length - (intOf v5).toNat)
 case atStart=>exact⟨0,by omega,rfl,Lh (by rw [keptI_zero];exact gown_nil _ _),Below.refl _ _⟩
 obtain⟨k,hk,rfl,HM,hbl⟩:=hrel;rename World=>wr;have HGr:=Lh (HG1.o.over hbl.o);obtain⟨g0,g1,g2,sg⟩:=HGr.o.c3;have hkl:=keptI_len l od k
 by_cases hlt:k<od.length
 rotate_left
 ·
  obtain rfl:k=od.length:=by omega
  have HE:=HM.o;rw [HAK.o] at HE;have HE2:=Lh (HE.base (Nat.le_trans HB.o.size HB1.o.size));clear HE;go_wp2;go_ret;exact⟨_,rfl,HE2.o,bvo HB.o (bvo HB1.o hbl.o)⟩
 obtain⟨b5,off5,rfl,sb5,hcb5⟩:=HC5.o.resolve_left (by omega);obtain⟨i,hi⟩:=gol hlt;obtain⟨si,i0⟩:=hcb5 k i hi _ hbl.o;have hil:=HOl.o i (List.mem_of_getElem? hi);obtain⟨x,hx⟩:=gol hil;obtain⟨a7,c7,e7,y1,y2,hc7⟩:=(HS1.o.over hbl.o).row.at encVert_len;cases e7
 obtain⟨b7,off7,rfl,sb7,hcb7⟩:=hc7.resolve_left (by omega);have x8:wr.cell? ⟨b7,off7+i*9+8,none⟩=some (.bool x.dead):=(hcb7 i x hx wr (Below.refl _ _)).2 8 _ rfl;have HI:=Lh hi;have HX:=Lh (deadQL_at hx);clear hcb5 hi hx hc7 hcb7;cases hd:x.dead with
 | true =>
  have HN:=Lh (keptI_no HI.o (HX.o.trans hd));rw [hd] at x8;clear hd;go_wp2_with fail;refine wlo 10 fun hcur=>?_;repeat refine lxq ?_
  refine lxe ?_;clear hcur;go_wp2;go_roundw
  case rel=>exact⟨k+1,hlt,by go_num,(by show GOwn _ _ _ _ _ _ _;rw [HN.o];exact HM.o.over (Below.refl _ _).drew),Lh hbl.o.drew⟩
  simp [intOf];omega
 | false =>
  have HN:=Lh (keptI_yes HI.o (HX.o.trans hd));rw [hd] at x8;have hN:(keptI l od k).length+1≤1099511627776:=by omega
  have hB:=hbl.o.size;clear hd;go_wp2_with fail;refine wlo 10 fun hcur=>?_;repeat refine lxq ?_
  refine lxe ?_;clear hcur;go_wp2_with (at_builtin;refine apD slIntI rfl _ _ rfl w1.heap.size _ _ (dad _ _ _) 1 _ _ _ HM.o rfl rfl rfl rfl hN (by decide) hB ?_;intro v9 w9 ho9 hg9);go_roundw
  case rel=>exact⟨k+1,hlt,by go_num,(by show GOwn _ _ _ _ _ _ _;rw [HN.o];exact GOwn.snoc ho9),bgr hbl.o hB HM.o hg9⟩
  simp [intOf];omega
theorem r21firm_any(lv sv:Value)(l:List VertM)(R:List (Nat × Nat))(i:Nat)(w:World)(h:RSh w lv sv l R)(hi:i<l.length):Calls Tryz.prog 102 #[rsV lv l.length sv,.int .i64 i] w fun e w'=>e=.returned (.bool (firmB R l.length i))∧Be w w':=by
 have d1:decide ((l.length:Int)≤(i:Int))=false:=by simp;omega
 have d2:decide (l.length≤i)=false:=by simp;omega
 have hroom:=h.rel.room;obtain⟨lp,lc,sp,sc,rfl,rfl,hlc⟩:=h.form;unfold maxLen at hlc;have HS:=Lh (h.over (bnew (w:=w) (.cells #[.slice lp l.length lc,.int .i64 l.length,.slice sp R.length sc] 107)));have HG:=Lh (anw w #[.slice lp l.length lc,.int .i64 l.length,.slice sp R.length sc] 107);have HB:=Lh (bnew (w:=w) (.cells #[.slice lp l.length lc,.int .i64 l.length,.slice sp R.length sc] 107));clear h;unfold rsV;go_enter Tryz.func102,Tryz.ntmps102;go_upto_region 1 with fail;generalize w.alloc (.cells #[.slice lp l.length lc,.int .i64 l.length,.slice sp R.length sc] 107)=w0 at *;obtain⟨g0,g1,g2,sg⟩:=HG.o.c3;go_wp2_with fail;clear g0 g1 g2 sg d1 d2;go_loopw [5] (fun v5 wr=>∃ j:Nat,j≤l.length∧v5=.int .i64 j∧Hid (∀ k,k<j→k≠i→aliB R i k=false)∧Hid (Be w0 wr)) (fun v5 _=>l.length - (intOf v5).toNat)
 case atStart=>exact⟨0,by omega,rfl,Lh (fun k hk=>absurd hk (Nat.not_lt_zero k)),Below.refl _ _⟩
 obtain⟨j,hj,rfl,HM,hbl⟩:=hrel;rename World=>wr;have HGr:=Lh (HG.o.over hbl.o);obtain⟨g0,g1,g2,sg⟩:=HGr.o.c3
 by_cases hlt:j<l.length
 rotate_left
 ·
  obtain rfl:j=l.length:=by omega
  have HF:=Lh (firmB_yes hi HM.o);go_wp2;go_ret;exact⟨rvb HF.o,bvo HB.o hbl.o⟩
 have d1:decide ((j:Int)<(l.length:Int))=true:=by simp;omega
 have d2:decide (j<l.length)=true:=by simp [hlt]
 by_cases he:j=i
 ·
  have e1:((j:Int) == (i:Int))=true:=by simp [he]
  have e2:((j:Int) != (i:Int))=false:=by simp [he]
  have HN:Hid (∀ k,k<j+1→k≠i→aliB R i k=false):=fun k hk hne=>by
   rcases Nat.lt_or_ge k j with hl|hl
   · exact HM.o k hl hne
   exact absurd (show k=i by omega) hne
  clear he;go_wp2;go_roundw
  case rel=>exact⟨j+1,hlt,by go_num,HN,hbl⟩
  simp [intOf];omega
 have e1:((j:Int) == (i:Int))=false:=by simp;omega
 have e2:((j:Int) != (i:Int))=true:=by simp;omega
 have HRr:=Lh ((HS.o.over hbl.o).rel);cases ha:aliB R i j with
 | true =>have HV:=Lh ha;have HF:=Lh (firmB_no hlt he ha);clear ha he;go_wp2_with fail;refine(r8ali_any l.length _ R i j _ HRr.o hi).mono ?_;rintro e w2 ⟨rfl,hb2⟩;rw [HV.o];have HB2:=Lh (bvo hbl.o hb2);clear hb2 g0 g1 g2 sg;go_wp2;go_ret;exact⟨rvb HF.o,bvo HB.o HB2.o⟩
 | false =>
  have HV:=Lh ha;have HN:Hid (∀ k,k<j+1→k≠i→aliB R i k=false):=fun k hk hne=>by
   rcases Nat.lt_or_ge k j with hl|hl
   · exact HM.o k hl hne
   obtain rfl:k=j:=(by omega);exact HV.o
  clear ha he;go_wp2_with fail;refine(r8ali_any l.length _ R i j _ HRr.o hi).mono ?_;rintro e w2 ⟨rfl,hb2⟩;rw [HV.o];have HB2:=Lh (bvo hbl.o hb2);clear hb2 g0 g1 g2 sg;go_wp2;go_roundw
  case rel=>exact⟨j+1,hlt,by go_num,HN,HB2⟩
  simp [intOf];omega
end
section
variable{e x:EdgeM}{o:List EdgeM}
def putStep(e:EdgeM)(s:List EdgeM × Bool)(x:EdgeM):List EdgeM × Bool:=
 if s.2=false∧(x=e∨aheadM e x=true) then(if x=e then s.1++[e] else(s.1++[e])++[x],true)
 else(if x=e then s.1 else s.1++[x],s.2)
def putSt(e:EdgeM)(l:List EdgeM)(k:Nat):List EdgeM × Bool:=(l.take k).foldl (putStep e) ([],false)
def putR(e:EdgeM)(l:List EdgeM):List EdgeM:=if(putSt e l l.length).2=true then(putSt e l l.length).1 else(putSt e l l.length).1++[e]
theorem putSt_zero(e:EdgeM)(l:List EdgeM):putSt e l 0=([],false):=rfl
theorem putSt_succ{l:List EdgeM}{k:Nat}(h:l[k]? = some x):putSt e l (k+1)=putStep e (putSt e l k) x:=by unfold putSt;rw [take_succ' h,List.foldl_append];rfl
theorem putStep_len(e x:EdgeM)(s:List EdgeM × Bool):(putStep e s x).1.length+(if(putStep e s x).2=true then 0 else 1)≤s.1.length+(if s.2=true then 0 else 1)+1:=by
 unfold putStep;obtain⟨l,b⟩:=s
 by_cases h:b=false∧(x=e∨aheadM e x=true)
 · rw [if_pos h];rw [h.1];by_cases hx:x=e <;> simp [hx]
 rw [if_neg h];by_cases hx:x=e <;> cases b <;> simp [hx]
theorem putSt_len(e:EdgeM)(l:List EdgeM):∀ k,(putSt e l k).1.length+(if(putSt e l k).2=true then 0 else 1)≤k+1
 | 0=>by rw [putSt_zero];simp
 | k+1=>by
  by_cases h:k<l.length
  · obtain⟨x,hx⟩:=gol h;rw [putSt_succ hx];have:=putStep_len e x (putSt e l k);have:=putSt_len e l k;omega
  have:putSt e l (k+1)=putSt e l k:=by unfold putSt;rw [List.take_of_length_le (by omega),List.take_of_length_le (by omega)]
  rw [this];have:=putSt_len e l k;omega
theorem step_a1(h:x=e):putStep e (o,true) x=(o,true):=by unfold putStep;simp [h]
theorem step_a2(h:¬ x=e):putStep e (o,true) x=(o++[x],true):=by unfold putStep;simp [h]
theorem step_b1(h:x=e):putStep e (o,false) x=(o++[e],true):=by unfold putStep;simp [h]
theorem step_b2(h:¬ x=e)(h2:aheadM e x=true):putStep e (o,false) x=((o++[e])++[x],true):=by unfold putStep;simp [h,h2]
theorem step_b3(h:¬ x=e)(h2:aheadM e x=false):putStep e (o,false) x=(o++[x],false):=by unfold putStep;simp [h,h2]
def PutIn(w0:World)(e:EdgeM)(l:List EdgeM)(v5 v6 v7:Value)(wr:World):Prop:=
 ∃(k:Nat) (o:List EdgeM) (b:Bool),k≤l.length∧v7=.int .i64 k∧v6=.bool b∧Hid (putSt e l k=(o,b))∧Hid (GOwn encEdge 6 133 wr w0.heap.size v5 o)∧Be w0 wr
attribute [local irreducible] aheadM putSt putStep
theorem rput20_any(v:Value)(l:List EdgeM)(e:EdgeM)(w:World)(hv:GRow encEdge 6 w v l)(hl:l.length≤100000) :
  Calls Tryz.prog 236 #[v,edgeV e] w (SetRes encEdge 6 w (putR e l)):=by
 have HA:=Lh (anw w #[.int .u8 e.1.pid.author.toNat,.int .u16 e.1.pid.seq.toNat,.int .u8 e.1.n.toNat,.int .u8 e.2.pid.author.toNat,.int .u16 e.2.pid.seq.toNat,.int .u8 e.2.n.toNat] 133);have HB:=Lh (bnew (w:=w) (.cells #[.int .u8 e.1.pid.author.toNat,.int .u16 e.1.pid.seq.toNat,.int .u8 e.1.n.toNat,.int .u8 e.2.pid.author.toNat,.int .u16 e.2.pid.seq.toNat,.int .u8 e.2.n.toNat] 133));obtain⟨a,cap,rfl,h1,h2,hc⟩:=hv.at encEdge_len;unfold maxLen at h2;have HC:=Lh hc;have gd:=fun p q xs ys w=>guard_edge .eql p q xs ys w;have gd2:=fun p q xs ys w=>guard_edge .neq p q xs ys w;clear hv hc;unfold edgeV;go_enter Tryz.func236,Tryz.ntmps236;go_upto_region 1 with fail;generalize w.alloc (.cells #[.int .u8 e.1.pid.author.toNat,.int .u16 e.1.pid.seq.toNat,.int .u8 e.1.n.toNat,.int .u8 e.2.pid.author.toNat,.int .u16 e.2.pid.seq.toNat,.int .u8 e.2.n.toNat] 133)=w0 at *;go_wp2;go_loopw [5,6,7] (fun v5 v6 v7 wr=>PutIn w0 e l v5 v6 v7 wr) (fun _ _ v7 _=>l.length - (intOf v7).toNat)
 case atStart=>exact⟨0,[],false,by omega,rfl,rfl,putSt_zero e l,gown_nil _ _,Below.refl _ _⟩
 obtain⟨k,o,b,hk,rfl,rfl,HS,HM,hbl⟩:=hrel;rename World=>wr;have hB2:=hbl.size;have hol:o.length≤k+1:=by have h:=putSt_len e l k;rw [HS.o] at h;simp only at h;omega
 have hN:o.length+1≤1099511627776:=by omega
 have HAr:=Lh (HA.o.over hbl);obtain⟨e0,e1,e2,e3,e4,e5,se⟩:=HAr.o.c6
 by_cases hlt:k<l.length
 rotate_left
 ·
  obtain rfl:k=l.length:=by omega
  have HE:=HM.o;cases b with
  | true =>have HP:Hid (putR e l=o):=(by show _=_;unfold putR;rw [HS.o];rfl);go_wp2;go_ret;exact⟨_,rfl,by rw [HP.o];exact HE.row,bvo HB.o hbl⟩
  | false =>have HP:Hid (putR e l=o++[e]):=(by show _=_;unfold putR;rw [HS.o];rfl);go_wp2_with (at_builtin;(first|refine apD slEdge rfl _ _ rfl w0.heap.size _ _ (dad _ _ _) 1 _ _ _ HM.o rfl rfl rfl rfl hN (by decide) hB2 ?_|refine apD slEdge rfl _ _ rfl w0.heap.size _ _ (drf _) 1 _ _ _ HM.o rfl rfl rfl rfl hN (by decide) hB2 ?_);intro v2 w2 ho2 hg2);go_ret;exact⟨_,rfl,by rw [HP.o];exact(GOwn.snoc ho2).row,bvo HB.o (bgr hbl hB2 HM.o hg2)⟩
 obtain⟨bo,off,rfl,sb,hcb⟩:=HC.o.resolve_left (by omega);obtain⟨x,hx⟩:=gol hlt;have HX:=Lh hx;have HCx:=Lh (hcb k x hx);clear hcb;have HRx:=Lh (HCx.o wr (bvo HB.o hbl));obtain⟨x0,x1,x2,x3,x4,x5,sx⟩:=rc6 HRx.o
 by_cases hxe:x=e
 ·
  have q1:=eql_edge x e true (by simp [hxe]);have q2:=neq_edge x e false (by simp [hxe]);unfold edgeV at q1 q2;cases b with
  | true =>
   have HSu:=Lh ((putSt_succ HX.o).trans ((congrArg (fun s=>putStep e s x) HS.o).trans (step_a1 hxe)));clear hxe;go_wp2_with fail;refine wlo 18 fun hcur=>?_;(repeat refine lxq ?_);refine lxe ?_;have HM3:=Lh (HM.o.over hcur);have hb3:=bov hbl hB2 hcur;generalize wr.drew=w3 at *;have hB3:=hb3.size;clear hcur e0 e1 e2 e3 e4 e5 se x0 x1 x2 x3 x4 x5 sx;go_upto_region 9 with fail;rename World=>wz;have HMz:=HM3;have hbz:=hb3;have hBz:=hB3;have hNz:=hN;have HRy:=Lh (HCx.o wz (bvo HB.o hbz));obtain⟨y0,y1,y2,y3,y4,y5,sy⟩:=rc6 HRy.o;have HAz:=Lh (HA.o.over hbz);obtain⟨f0,f1,f2,f3,f4,f5,sf⟩:=HAz.o.c6;refine wlo 6 fun hcur=>?_;(repeat refine lxq ?_);refine lxe ?_;clear hcur;go_wp2;go_roundw
   case rel=>exact⟨k+1,_,_,hlt,by go_num,rfl,HSu,Lh (HMz.o.over (Below.refl _ _).drew),hbz.drew⟩
   simp [intOf];omega
  | false =>
   have HSu:=Lh ((putSt_succ HX.o).trans ((congrArg (fun s=>putStep e s x) HS.o).trans (step_b1 hxe)));clear hxe;go_wp2_with fail;refine wlo 18 fun hcur=>?_;(repeat refine lxq ?_);refine lxe ?_;have HM3:=Lh (HM.o.over hcur);have hb3:=bov hbl hB2 hcur;generalize wr.drew=w3 at *;have hB3:=hb3.size;clear hcur e0 e1 e2 e3 e4 e5 se x0 x1 x2 x3 x4 x5 sx;have HA3:=Lh (HA.o.over hb3);obtain⟨e0,e1,e2,e3,e4,e5,se⟩:=HA3.o.c6;go_upto_region 9 with(at_builtin;(first|refine apD slEdge rfl _ _ rfl w0.heap.size _ _ (dad _ _ _) 1 _ _ _ HM3.o rfl rfl rfl rfl hN (by decide) hB3 ?_|refine apD slEdge rfl _ _ rfl w0.heap.size _ _ (drf _) 1 _ _ _ HM3.o rfl rfl rfl rfl hN (by decide) hB3 ?_);intro v2 wz ho2 hg2)
   have HMz:Hid (GOwn encEdge 6 133 wz w0.heap.size v2 (o++[e])):=Lh (GOwn.snoc ho2);have hbz:=bgr hb3 hB3 HM3.o hg2;have hBz:=hbz.size;have hNz:(o++[e]).length+1≤1099511627776:=(by simp;omega);clear ho2 hg2 e0 e1 e2 e3 e4 e5 se;have HRy:=Lh (HCx.o wz (bvo HB.o hbz));obtain⟨y0,y1,y2,y3,y4,y5,sy⟩:=rc6 HRy.o;have HAz:=Lh (HA.o.over hbz);obtain⟨f0,f1,f2,f3,f4,f5,sf⟩:=HAz.o.c6;refine wlo 6 fun hcur=>?_;(repeat refine lxq ?_);refine lxe ?_;clear hcur;go_wp2;go_roundw
   case rel=>exact⟨k+1,_,_,hlt,by go_num,rfl,HSu,Lh (HMz.o.over (Below.refl _ _).drew),hbz.drew⟩
   simp [intOf];omega
 have q1:=eql_edge x e false (by simp [hxe]);have q2:=neq_edge x e true (by simp [hxe]);unfold edgeV at q1 q2;cases b with
 | true =>
  have HSu:=Lh ((putSt_succ HX.o).trans ((congrArg (fun s=>putStep e s x) HS.o).trans (step_a2 hxe)));clear hxe;go_wp2_with fail;refine wlo 18 fun hcur=>?_;repeat refine lxq ?_
  refine lxe ?_;have HM3:=Lh (HM.o.over hcur);have hb3:=bov hbl hB2 hcur;generalize wr.drew=w3 at *;have hB3:=hb3.size;clear hcur e0 e1 e2 e3 e4 e5 se x0 x1 x2 x3 x4 x5 sx;go_upto_region 9 with fail;rename World=>wz;have HMz:=HM3;have hbz:=hb3;have hBz:=hB3;have hNz:=hN;have HRy:=Lh (HCx.o wz (bvo HB.o hbz));obtain⟨y0,y1,y2,y3,y4,y5,sy⟩:=rc6 HRy.o;have HAz:=Lh (HA.o.over hbz);obtain⟨f0,f1,f2,f3,f4,f5,sf⟩:=HAz.o.c6;refine wlo 6 fun hcur=>?_;repeat refine lxq ?_
  refine lxe ?_;clear hcur;go_wp2_with (at_builtin;(first|refine apD slEdge rfl _ _ rfl w0.heap.size _ _ (dad _ _ _) 1 _ _ _ HMz.o rfl rfl rfl rfl hNz (by decide) hBz ?_|refine apD slEdge rfl _ _ rfl w0.heap.size _ _ (drf _) 1 _ _ _ HMz.o rfl rfl rfl rfl hNz (by decide) hBz ?_);intro v4 w4 ho4 hg4);go_roundw
  case rel=>exact⟨k+1,_,_,hlt,by go_num,rfl,HSu,Lh (GOwn.snoc ho4),bgr hbz hBz HMz.o hg4⟩
  simp [intOf];omega
 | false =>
  cases ha:aheadM e x with
  | true =>
   have HH:=Lh ha;have HSu:=Lh ((putSt_succ HX.o).trans ((congrArg (fun s=>putStep e s x) HS.o).trans (step_b2 hxe ha)));clear hxe;clear ha;go_wp2_with fail;refine wlo 18 fun hcur=>?_;(repeat(first|refine lxq ?_|(refine lxl rfl ?_;go_wp2_with (first|(go_at_call 285;(with_reducible refine(rahead_any e x _).mono ?_);rintro e w9 ⟨rfl,hb⟩;rw [HH.o];have hcur:=bvo hcur hb));refine⟨iov hcur,?_⟩)));refine lxe ?_;have HM3:=Lh (HM.o.over hcur);have hb3:=bov hbl hB2 hcur;rename World=>w3;have hB3:=hb3.size;clear hcur e0 e1 e2 e3 e4 e5 se x0 x1 x2 x3 x4 x5 sx;have HA3:=Lh (HA.o.over hb3);obtain⟨e0,e1,e2,e3,e4,e5,se⟩:=HA3.o.c6;go_upto_region 9 with(at_builtin;(first|refine apD slEdge rfl _ _ rfl w0.heap.size _ _ (dad _ _ _) 1 _ _ _ HM3.o rfl rfl rfl rfl hN (by decide) hB3 ?_|refine apD slEdge rfl _ _ rfl w0.heap.size _ _ (drf _) 1 _ _ _ HM3.o rfl rfl rfl rfl hN (by decide) hB3 ?_);intro v2 wz ho2 hg2)
   have HMz:Hid (GOwn encEdge 6 133 wz w0.heap.size v2 (o++[e])):=Lh (GOwn.snoc ho2);have hbz:=bgr hb3 hB3 HM3.o hg2;have hBz:=hbz.size;have hNz:(o++[e]).length+1≤1099511627776:=(by simp;omega);clear ho2 hg2 e0 e1 e2 e3 e4 e5 se;have HRy:=Lh (HCx.o wz (bvo HB.o hbz));obtain⟨y0,y1,y2,y3,y4,y5,sy⟩:=rc6 HRy.o;have HAz:=Lh (HA.o.over hbz);obtain⟨f0,f1,f2,f3,f4,f5,sf⟩:=HAz.o.c6;refine wlo 6 fun hcur=>?_;(repeat refine lxq ?_);refine lxe ?_;clear hcur;go_wp2_with (at_builtin;(first|refine apD slEdge rfl _ _ rfl w0.heap.size _ _ (dad _ _ _) 1 _ _ _ HMz.o rfl rfl rfl rfl hNz (by decide) hBz ?_|refine apD slEdge rfl _ _ rfl w0.heap.size _ _ (drf _) 1 _ _ _ HMz.o rfl rfl rfl rfl hNz (by decide) hBz ?_);intro v4 w4 ho4 hg4);go_roundw
   case rel=>exact⟨k+1,_,_,hlt,by go_num,rfl,HSu,Lh (GOwn.snoc ho4),bgr hbz hBz HMz.o hg4⟩
   simp [intOf];omega
  | false =>
   have HH:=Lh ha;have HSu:=Lh ((putSt_succ HX.o).trans ((congrArg (fun s=>putStep e s x) HS.o).trans (step_b3 hxe ha)));clear hxe;clear ha;go_wp2_with fail;refine wlo 18 fun hcur=>?_;(repeat(first|refine lxq ?_|(refine lxl rfl ?_;go_wp2_with (first|(go_at_call 285;(with_reducible refine(rahead_any e x _).mono ?_);rintro e w9 ⟨rfl,hb⟩;rw [HH.o];have hcur:=bvo hcur hb));refine⟨iov hcur,?_⟩)));refine lxe ?_;have HM3:=Lh (HM.o.over hcur);have hb3:=bov hbl hB2 hcur;rename World=>w3;have hB3:=hb3.size;clear hcur e0 e1 e2 e3 e4 e5 se x0 x1 x2 x3 x4 x5 sx;go_upto_region 9 with fail;rename World=>wz;have HMz:=HM3;have hbz:=hb3;have hBz:=hB3;have hNz:=hN;have HRy:=Lh (HCx.o wz (bvo HB.o hbz));obtain⟨y0,y1,y2,y3,y4,y5,sy⟩:=rc6 HRy.o;have HAz:=Lh (HA.o.over hbz);obtain⟨f0,f1,f2,f3,f4,f5,sf⟩:=HAz.o.c6;refine wlo 6 fun hcur=>?_;(repeat refine lxq ?_);refine lxe ?_;clear hcur;go_wp2_with (at_builtin;(first|refine apD slEdge rfl _ _ rfl w0.heap.size _ _ (dad _ _ _) 1 _ _ _ HMz.o rfl rfl rfl rfl hNz (by decide) hBz ?_|refine apD slEdge rfl _ _ rfl w0.heap.size _ _ (drf _) 1 _ _ _ HMz.o rfl rfl rfl rfl hNz (by decide) hBz ?_);intro v4 w4 ho4 hg4);go_roundw
   case rel=>exact⟨k+1,_,_,hlt,by go_num,rfl,HSu,Lh (GOwn.snoc ho4),bgr hbz hBz HMz.o hg4⟩
   simp [intOf];omega
end
section
theorem putR_len(e:EdgeM)(l:List EdgeM):(putR e l).length≤l.length+1:=by
 have h:=putSt_len e l l.length;unfold putR
 by_cases hb:(putSt e l l.length).2=true
 · rw [if_pos hb] at h ⊢;omega
 rw [if_neg hb] at h ⊢;rw [List.length_append];exact h
def edStep(out:List EdgeM)(o:OpM):List EdgeM:=if o.kind.toNat=4 then putR (o.at',o.to) out else out
def edP(l:List EdgeM)(p:PatchM)(k:Nat):List EdgeM:=(p.ops.take k).foldl edStep l
def edX(xs:List LaidP):List EdgeM:=xs.foldl (fun out x=>edP out x.p x.p.ops.length) []
theorem edP_zero(l:List EdgeM)(p:PatchM):edP l p 0=l:=rfl
theorem edP_yes{l:List EdgeM}{p:PatchM}{k:Nat}{o:OpM}(ho:p.ops[k]? = some o)(h:o.kind.toNat=4):edP l p (k+1)=putR (o.at',o.to) (edP l p k):=by unfold edP;rw [take_succ' ho,List.foldl_append];show edStep _ o=_;unfold edStep;rw [if_pos h]
theorem edP_no{l:List EdgeM}{p:PatchM}{k:Nat}{o:OpM}(ho:p.ops[k]? = some o)(h:¬ o.kind.toNat=4):edP l p (k+1)=edP l p k:=by unfold edP;rw [take_succ' ho,List.foldl_append];show edStep _ o=_;unfold edStep;rw [if_neg h]
theorem edF_len:∀(ops:List OpM) (l:List EdgeM),(ops.foldl edStep l).length≤l.length+ops.length
 | [],l=>by simp
 | o :: ops,l=>by
  rw [List.foldl_cons,List.length_cons];have h1:=edF_len ops (edStep l o);have h2:(edStep l o).length≤l.length+1:=by
   unfold edStep;by_cases h:o.kind.toNat=4
   · rw [if_pos h];exact putR_len _ _
   rw [if_neg h];omega
  omega
theorem edP_len(l:List EdgeM)(p:PatchM)(k:Nat):(edP l p k).length≤l.length+k:=by unfold edP;have:=edF_len (p.ops.take k) l;rw [List.length_take] at this;omega
theorem edX_zero(xs:List LaidP):edX (xs.take 0)=[]:=rfl
theorem edX_succ{xs:List LaidP}{i:Nat}{x:LaidP}(h:xs[i]? = some x):edX (xs.take (i+1))=edP (edX (xs.take i)) x.p x.p.ops.length:=by unfold edX;rw [take_succ' h,List.foldl_append];rfl
theorem edX_lenF:∀(xs:List LaidP) (l:List EdgeM),(∀ x∈xs,x.p.ops.length≤260)→(xs.foldl (fun out x=>edP out x.p x.p.ops.length) l).length≤l.length+260*xs.length
 | [],l,_=>by simp
 | x :: xs,l,h=>by rw [List.foldl_cons,List.length_cons];have h1:=edX_lenF xs (edP l x.p x.p.ops.length) (fun y hy=>h y (List.mem_cons_of_mem _ hy));have h2:=edP_len l x.p x.p.ops.length;have h3:=h x (List.mem_cons_self ..);omega
theorem edX_len(xs:List LaidP)(h:∀ x∈xs,x.p.ops.length≤260):(edX xs).length≤260*xs.length:=by have:=edX_lenF xs [] h;simpa [edX] using this
def EdOut(w0:World)(xs:List LaidP)(v3 v4:Value)(wr:World):Prop:=∃ i:Nat,i≤xs.length∧v4=.int .i64 i∧Hid (GRow encEdge 6 wr v3 (edX (xs.take i)))∧Be w0 wr
def EdIn(w0:World)(p:PatchM)(l:List EdgeM)(v3 v5:Value)(wr:World):Prop:=∃ k:Nat,k≤p.ops.length∧v5=.int .i64 k∧Hid (GRow encEdge 6 wr v3 (edP l p k))∧Be w0 wr
attribute [local irreducible] edP edX putR
theorem redges20_any(gv:Value)(xs:List LaidP)(w:World)(hv:Pats w gv xs)(hn:xs.length≤300)(hl:∀ x∈xs,x.p.ops.length≤260) :
  Calls Tryz.prog 174 #[rgV gv] w (SetRes encEdge 6 w (edX xs)):=by
 have HL:=Lh hl;have HV:=Lh hv;obtain⟨a,cap,rfl,h1,h2,hc⟩:=hv.1.at encPat_len;unfold maxLen at h2;have HC:=Lh hc;have HG:=Lh (anw w #[.slice a xs.length cap] 34);have HB:=Lh (bnew (w:=w) (.cells #[.slice a xs.length cap] 34));clear hv hc hl;unfold rgV;go_enter Tryz.func174,Tryz.ntmps174;go_upto_region 1 with fail;generalize (w.alloc (.cells #[.slice a xs.length cap] 34))=w0 at *;go_wp2;go_loopw [3,4] (fun v3 v4 wr=>EdOut w0 xs v3 v4 wr) (fun _ v4 _=>xs.length - (intOf v4).toNat)
 case atStart=>exact⟨0,by omega,rfl,(by show GRow _ _ _ _ _;rw [edX_zero];exact(gown_nil (enc:=encEdge) (sz:=6) (e:=133) w0 w0.heap.size).row),Below.refl _ _⟩
 obtain⟨i,hi,rfl,HM,hbl⟩:=hrel;have HBr:=Lh (bvo HB.o hbl);have HGr:=Lh (HG.o.over hbl);rename World=>wo;obtain⟨g0,sg⟩:=HGr.o.c1
 by_cases hlt:i<xs.length
 rotate_left
 ·
  obtain rfl:i=xs.length:=by omega
  have hxl:=edX_len xs HL.o;have HE:=HM.o;rw [List.take_length] at HE;have HE2:=Lh HE;clear HE HM;go_wp2;go_ret;exact⟨_,rfl,HE2.o,HBr.o⟩
 obtain⟨bo,off,rfl,sb,hcb⟩:=HC.o.resolve_left (by omega);obtain⟨x,hx⟩:=gol hlt;have HX:=Lh hx;have hp:PatOk w x:=HV.o.2 x (List.mem_of_getElem? hx);have hlx:=HL.o x (List.mem_of_getElem? hx);obtain⟨ao,capo,hov,t1,t2,hco⟩:=hp.2.at encOp_len;unfold maxLen at t2;have HCo:=Lh hco;have HCb:=Lh (hcb i x hx);have HSu:=Lh (edX_succ hx);have hxl:(edX (xs.take i)).length≤260*300:=by have:=edX_len (xs.take i) (fun y hy=>HL.o y (List.mem_of_mem_take hy));rw [List.length_take] at this;omega
 generalize edX (xs.take i)=Li at *;clear hcb hx hp hco;go_wp2_with fail;clear g0 sg;go_hide hQ;go_loopw [3,5] (fun v3 v5 wi=>EdIn w0 x.p Li v3 v5 wi) (fun _ v5 _=>x.p.ops.length - (intOf v5).toNat)
 case atStart=>exact⟨0,by omega,rfl,(by show GRow _ _ _ _ _;rw [edP_zero];exact HM.o),hbl⟩
 rename World=>wr;obtain⟨k,hk,rfl,HM2,hbi⟩:=hrel;have hfl:=edP_len Li x.p k;have hN:(edP Li x.p k).length≤100000:=by omega
 have HB5:=Lh (bvo HB.o hbi);have HG5:=Lh (HG.o.over hbi);have HRx:=Lh (HCb.o wr HB5.o);obtain⟨g0,sg⟩:=HG5.o.c1;obtain⟨x0,x1,x2,x3,sx⟩:=rc4 HRx.o;rw [hov] at x3
 by_cases hlk:k<x.p.ops.length
 rotate_left
 ·
  obtain rfl:k=x.p.ops.length:=by omega
  go_wp2;subst hQ;go_wp2;go_roundw
  case rel=>exact⟨i+1,hlt,by go_num,(by show GRow _ _ _ _ _;rw [HSu.o];exact HM2.o),hbi⟩
  simp [intOf];omega
 obtain⟨b2,off2,rfl,sb2,hcb2⟩:=HCo.o.resolve_left (by omega);obtain⟨o,ho⟩:=gol hlk;have HO:=Lh ho;have HRo:=Lh (hcb2 k o ho wr HB5.o);obtain⟨o0,o1,o2,o3,o4,o5,o6,o7,so⟩:=rc8 HRo.o;clear hcb2 ho;go_upto_region 9 with fail;have HO6:=Lh (anw wr (cO o) 76);have hb6:=hbi.alloc hbi.size (.cells (cO o) 76);have HM6:=Lh (HM2.o.over (bnew (.cells (cO o) 76)));generalize wr.alloc (.cells (cO o) 76)=w6 at *;clear o0 o1 o2 o3 o4 o5 o6 o7 so x0 x1 x2 x3 sx g0 sg;obtain⟨o0,o1,o2,o3,o4,o5,o6,o7,so⟩:=HO6.o.c8
 by_cases h4:o.kind.toNat=4
 ·
  have e4:((o.kind.toNat:Int) == 4)=true:=by simp;omega
  have HN:=Lh (edP_yes (l:=Li) HO.o h4);clear h4;go_wp2_with (first|(go_at_call 236;(with_reducible refine(rput20_any _ (edP Li x.p k) (o.at',o.to) _ HM6.o hN).mono ?_);rintro e w7 ⟨u,rfl,hu,hb⟩));go_roundw
  case rel=>exact⟨k+1,hlk,by go_num,(by show GRow _ _ _ _ _;rw [HN.o];exact hu),bvo hb6 hb⟩
  simp [intOf];omega
 have e4:((o.kind.toNat:Int) == 4)=false:=by simp;omega
 have HN:=Lh (edP_no (l:=Li) HO.o h4);clear h4;go_wp2;go_roundw
 case rel=>exact⟨k+1,hlk,by go_num,(by show GRow _ _ _ _ _;rw [HN.o];exact HM6.o),hb6⟩
 simp [intOf];omega
end
theorem packVid_top(v:VidM):packVid v<4294967296:=by have h1:=v.pid.author.toNat_lt;have h2:=v.pid.seq.toNat_lt;have h3:=v.n.toNat_lt;unfold packVid packPid;omega
theorem ahead_key(a b:EdgeM):aheadM a b=decide (edgeKey a<edgeKey b):=by
 have h1:=packVid_top a.2;have h2:=packVid_top b.2;have hc (x y:VidM):(cmpVid x y<0)↔packVid x<packVid y:=by
  unfold cmpVid;rcases Nat.lt_trichotomy (packVid x) (packVid y) with h|h|h
  · rw [cmpN_lt h];simp [h]
  · rw [cmpN_eq h];simp [h]
  rw [cmpN_gt h];simp;omega
 unfold aheadM edgeKey
 by_cases h:a.1=b.1
 · rw [if_pos h,h,Bool.eq_iff_iff,decide_eq_true_iff,decide_eq_true_iff,hc];omega
 rw [if_neg h,Bool.eq_iff_iff,decide_eq_true_iff,decide_eq_true_iff,hc];have:packVid a.1≠packVid b.1:=fun e=>h (packVid_inj e);omega
theorem put_true(e:EdgeM):∀(l o:List EdgeM),¬ e∈l→l.foldl (putStep e) (o,true)=(o++l,true)
 | [],o,_=>by simp
 | x :: l,o,h=>by have hx:¬ x=e:=fun q=>h (by rw [q];exact List.mem_cons_self ..);rw [List.foldl_cons,step_a2 hx,put_true e l _ (fun q=>h (List.mem_cons_of_mem _ q))];simp
theorem put_false(e:EdgeM):∀(l o:List EdgeM),Rises edgeKey l→(if(l.foldl (putStep e) (o,false)).2=true then(l.foldl (putStep e) (o,false)).1 else(l.foldl (putStep e) (o,false)).1++[e])=o++putS edgeKey e l
 | [],o,_=>by simp [putS]
 | x :: l,o,h=>by
  obtain⟨h1,h2⟩:=List.pairwise_cons.1 h
  by_cases hx:x=e
  ·
   have hn:¬ e∈l:=fun q=>by have:=h1 e q;rw [hx] at this;omega
   rw [List.foldl_cons,step_b1 hx,put_true e l _ hn,putS_eq (by rw [hx])];subst hx;simp
  cases ha:aheadM e x with
  | true =>
   have hk:edgeKey e<edgeKey x:=(by rw [ahead_key] at ha;simpa using ha);have hn:¬ e∈l:=fun q=>by have:=h1 e q;omega
   rw [List.foldl_cons,step_b2 hx ha,put_true e l _ hn,putS_lt hk];simp
  | false =>
   have hk:edgeKey x<edgeKey e:=by rw [ahead_key] at ha;have:¬ edgeKey e<edgeKey x:=(by simpa using ha);have:edgeKey x≠edgeKey e:=fun q=>hx (edgeKey_hi _ _ q);omega
   rw [List.foldl_cons,step_b3 hx ha,put_false e l _ h2,putS_gt hk];simp
theorem putR_eq{e:EdgeM}{l:List EdgeM}(h:Rises edgeKey l):putR e l=putS edgeKey e l:=by unfold putR putSt;rw [List.take_length];exact(put_false e l [] h).trans (by simp)
theorem edF_eq:∀(ops:List OpM) (l:List EdgeM),Rises edgeKey l→ops.foldl edStep l=(ops.filterMap fun o=>if o.kind=4 then some (o.at',o.to) else none).foldl (fun out x=>putS edgeKey x out) l∧Rises edgeKey (ops.foldl edStep l)
 | [],l,h=>⟨rfl,h⟩
 | o :: ops,l,h=>by
  by_cases h4:o.kind.toNat=4
  · have hk:o.kind=4:=(u8_nat o.kind 4 (by omega)).2 h4;have hs:edStep l o=putS edgeKey (o.at',o.to) l:=(by unfold edStep;rw [if_pos h4];exact putR_eq h);rw [List.foldl_cons,hs,List.filterMap_cons,if_pos hk,List.foldl_cons];exact edF_eq ops _ (rises_putS edgeKey_hi _ h)
  have hk:¬ o.kind=4:=fun e=>h4 (by rw [e];rfl);have hs:edStep l o=l:=by unfold edStep;rw [if_neg h4]
  rw [List.foldl_cons,hs,List.filterMap_cons,if_neg hk];exact edF_eq ops l h
theorem edX_go:∀(xs:List LaidP) (l:List EdgeM),Rises edgeKey l→xs.foldl (fun out x=>edP out x.p x.p.ops.length) l=(edgesOf (patsOf xs)).foldl (fun out x=>putS edgeKey x out) l
 | [],l,_=>rfl
 | x :: xs,l,h=>by
  have e1:edP l x.p x.p.ops.length=x.p.ops.foldl edStep l:=by unfold edP;rw [List.take_length]
  obtain⟨h1,h2⟩:=edF_eq x.p.ops l h;have e2:edgesOf (patsOf (x :: xs))=(x.p.ops.filterMap fun o=>if o.kind=4 then some (o.at',o.to) else none)++edgesOf (patsOf xs):=by unfold edgesOf;rfl
  rw [List.foldl_cons,e1,e2,List.foldl_append,← h1];exact edX_go xs _ h2
theorem edX_eq(xs:List LaidP):edX xs=edgesM (patsOf xs):=edX_go xs [] List.Pairwise.nil
section
def stTo(L:List PatchM)(l:List EdgeM)(file:VidM)(k:Nat):List EdgeM:=(l.take k).filter fun e=>decide (fileAt L e.1=file)
theorem stTo_all(L:List PatchM)(file:VidM):stTo L (edgesM L) file (edgesM L).length=stepsM L file:=by unfold stTo stepsM;rw [List.take_length]
theorem stTo_zero(L:List PatchM)(l:List EdgeM)(file:VidM):stTo L l file 0=[]:=rfl
theorem stTo_yes{L:List PatchM}{l:List EdgeM}{file:VidM}{k:Nat}{e:EdgeM}(h:l[k]? = some e)(h1:fileAt L e.1=file):stTo L l file (k+1)=stTo L l file k++[e]:=by unfold stTo;rw [take_succ' h,List.filter_append];simp [h1]
theorem stTo_no{L:List PatchM}{l:List EdgeM}{file:VidM}{k:Nat}{e:EdgeM}(h:l[k]? = some e)(h1:¬ fileAt L e.1=file):stTo L l file (k+1)=stTo L l file k:=by unfold stTo;rw [take_succ' h,List.filter_append];simp [h1]
theorem stTo_len(L:List PatchM)(l:List EdgeM)(file:VidM)(k:Nat):(stTo L l file k).length≤l.length:=by unfold stTo;exact Nat.le_trans (List.length_filter_le _ _) (by rw [List.length_take];omega)
def StIn(w2:World)(L:List PatchM)(l:List EdgeM)(file:VidM)(v5 v7:Value)(wr:World):Prop:=∃ k:Nat,k≤l.length∧v7=.int .i64 k∧Hid (GOwn encEdge 6 133 wr w2.heap.size v5 (stTo L l file k))∧Be w2 wr
attribute [local irreducible] edgesM stTo vertM optV edX fileAt
theorem rsteps20_any(gv:Value)(xs:List LaidP)(v:VidM)(w:World)(hv:Pats w gv xs)(hn:xs.length≤300)(hl:∀ x∈xs,x.p.ops.length≤260)(hil:(edgesM (patsOf xs)).length≤100000) :
  Calls Tryz.prog 105 #[rgV gv,vidV v] w (SetRes encEdge 6 w (stepsM (patsOf xs) v)):=by
 rw [← stTo_all];have gd:=fun p q xs ys w=>guard_vid .eql p q xs ys w;have HL:=Lh hl;have HL4:Hid (∀ x∈xs,x.p.ops.length≤40000):=Lh fun x hx=>Nat.le_trans (hl x hx) (by omega);have HV:=Lh hv;obtain⟨a,cap,rfl,h1,h2,hc⟩:=hv.1.at encPat_len;unfold maxLen at h2;have HC:=Lh hc;have HG:=Lh ((anw w #[.slice a xs.length cap] 34).alloc (.cells (cV v) 74));have HQ:=Lh (an2 w (.cells #[.slice a xs.length cap] 34) (cV v) 74);have HB:=Lh ((bnew (w:=w) (.cells #[.slice a xs.length cap] 34)).alloc (by simp) (.cells (cV v) 74));clear hv hc hl;unfold rgV vidV;go_enter Tryz.func105,Tryz.ntmps105;go_upto_region 1 with fail;generalize (w.alloc (.cells #[.slice a xs.length cap] 34)).alloc (.cells (cV v) 74)=w0 at *;obtain⟨g0,sg⟩:=HG.o.c1;have HV0:=Lh (HV.o.over HB.o);go_upto_region 3 with(first|(go_at_call 174;(with_reducible refine(redges20_any _ xs _ (HV0.o.over (Below.refl _ _)) hn HL.o).mono ?_);rintro e w2 ⟨u2,rfl,hu2,hb2⟩))
 rw [edX_eq] at hu2;generalize edgesM (patsOf xs)=l at *;obtain⟨a3,cap3,rfl,t1,t2,hc3⟩:=hu2.at encEdge_len;unfold maxLen at t2;have HC3:=Lh hc3;have HG2:=Lh (HG.o.over hb2);have HQ2:=Lh (HQ.o.over hb2);have HB2:=Lh (bvo HB.o hb2);have HV2:=Lh (HV.o.over HB2.o);clear hu2 hc3 hb2 g0 sg;go_wp2;go_loopw [5,7] (fun v5 v7 wr=>StIn w2 (patsOf xs) l v v5 v7 wr) (fun _ v7 _=>l.length - (intOf v7).toNat)
 case atStart=>exact⟨0,by omega,rfl,(by show GOwn _ _ _ _ _ _ _;rw [stTo_zero];exact gown_nil _ _),Below.refl _ _⟩
 obtain⟨k,hk,rfl,HM,hbl⟩:=hrel;rename World=>wr;have hvl:=stTo_len (patsOf xs) l v k
 by_cases hlt:k<l.length
 rotate_left
 ·
  obtain rfl:k=l.length:=by omega
  have HE:=HM.o;have HE2:=Lh HE.row;clear HE HM;go_wp2;go_ret;exact⟨_,rfl,HE2.o,bvo HB2.o hbl⟩
 obtain⟨b3,off3,rfl,sb3,hcb⟩:=HC3.o.resolve_left (by omega);obtain⟨u,hu⟩:=gol hlt;have HUk:=Lh hu;have HU:=Lh (hcb k u hu wr hbl);have HUCB:=Lh (hcb k u hu);obtain⟨u0,u1,u2,su⟩:=rc3 HU.o;have HGr:=Lh (HG2.o.over hbl);have HVr:=Lh (HV2.o.over hbl);obtain⟨g0,sg⟩:=HGr.o.c1;have HF:=Lh (file_at (patsOf xs) u.1);generalize hx:vertM (patsOf xs) u.1=x at *;have HX:=Lh hx;clear hx hcb hu;generalize hy:optV x=y at *;have HY:=Lh hy;clear hy;go_upto_region 6 with fail;have HS:Hid (∀ w':World,Be wr w'→(w'.cell? ⟨w.heap.size,0,none⟩=some (.slice a xs.length cap)∧w'.cell? ⟨b3,off3+k*6,none⟩=some (.int .u8 u.1.pid.author.toNat)∧w'.cell? ⟨b3,off3+k*6+1,none⟩=some (.int .u16 u.1.pid.seq.toNat)∧w'.cell? ⟨b3,off3+k*6+2,none⟩=some (.int .u8 u.1.n.toNat)∧Be wr w')):=fun w' hb=>⟨(hb.cell (p:=⟨w.heap.size,0,none⟩) sg).trans g0,(hb.cell (p:=⟨b3,off3+k*6,none⟩) su).trans u0,(hb.cell (p:=⟨b3,off3+k*6+1,none⟩) su).trans u1,(hb.cell (p:=⟨b3,off3+k*6+2,none⟩) su).trans u2,hb⟩;go_cut [8] (fun s8 wx=>∃ g2,s8=.pointer (some ⟨g2,0,none⟩)∧Hid (Arr wx g2 [.int .u8 y.id.pid.author.toNat,.int .u16 y.id.pid.seq.toNat,.int .u8 y.id.n.toNat,.int .u8 y.kind.toNat,.int .u8 y.file.pid.author.toNat,.int .u16 y.file.pid.seq.toNat,.int .u8 y.file.n.toNat,.string y.text,.bool y.dead])∧Hid (Be wr wx)∧wr.heap.size≤g2)
 case first =>
  go_region_held3 (fun w'=>w'.cell? ⟨w.heap.size,0,none⟩=some (.slice a xs.length cap)∧w'.cell? ⟨b3,off3+k*6,none⟩=some (.int .u8 u.1.pid.author.toNat)∧w'.cell? ⟨b3,off3+k*6+1,none⟩=some (.int .u16 u.1.pid.seq.toNat)∧w'.cell? ⟨b3,off3+k*6+2,none⟩=some (.int .u8 u.1.n.toNat)∧Be wr w') ((refine HS.o _ ?_;(with_reducible (first|exact(Below.refl _ _).drew|exact HBk.o|exact HBk.o.alloc HBk.o.size _|exact((Below.refl wr.heap.size wr).alloc (Nat.le_refl _) _).drew|exact(((((((((HBk.o.setCell (p:=⟨wr.heap.size,0,none⟩) (Nat.le_refl _) (.int .u8 y.id.pid.author.toNat)).setCell (p:=⟨wr.heap.size,1,none⟩) (Nat.le_refl _) (.int .u16 y.id.pid.seq.toNat)).setCell (p:=⟨wr.heap.size,2,none⟩) (Nat.le_refl _) (.int .u8 y.id.n.toNat)).setCell (p:=⟨wr.heap.size,3,none⟩) (Nat.le_refl _) (.int .u8 y.kind.toNat)).setCell (p:=⟨wr.heap.size,4,none⟩) (Nat.le_refl _) (.int .u8 y.file.pid.author.toNat)).setCell (p:=⟨wr.heap.size,5,none⟩) (Nat.le_refl _) (.int .u16 y.file.pid.seq.toNat)).setCell (p:=⟨wr.heap.size,6,none⟩) (Nat.le_refl _) (.int .u8 y.file.n.toNat)).setCell (p:=⟨wr.heap.size,7,none⟩) (Nat.le_refl _) (.string y.text)).setCell (p:=⟨wr.heap.size,8,none⟩) (Nat.le_refl _) (.bool y.dead))))))
   (first|(go_at_call 131;refine(rvert20_any _ xs u.1 _ (HVr.o.over (by first|exact(Below.refl _ _).drew|exact((Below.refl wr.heap.size wr).alloc (Nat.le_refl _) _).drew)) HL4.o).mono ?_;rintro e w7 ⟨rfl,hb⟩;rw [HX.o,HY.o];have HBk:Hid (Be wr w7):=(by show Be wr w7;with_reducible (first|exact bov (Below.refl wr.heap.size wr).drew (Nat.le_refl _) hb|exact bov (((Below.refl wr.heap.size wr).alloc (Nat.le_refl _) _).drew) (Below.size (((Below.refl wr.heap.size wr).alloc (Nat.le_refl _) _).drew)) hb));have HBb:=Lh hb;obtain⟨hcc,hff⟩:=bcell hb;clear hb))
  ·
   rename_i J K hJ hK hHeld;clear hHeld;refine hK _ _ (Met.intro (hJ _ _ ?_))
   (repeat apply Exists.intro)
   refine⟨?_,rfl⟩;exact⟨_,rfl,Lh (anw _ _ _),Lh (HBk.o.alloc HBk.o.size _),HBk.o.size⟩
  rename_i J K hJ hK hHeld;clear hHeld;refine hK _ _ (Met.intro (hJ _ _ ?_))
  (repeat apply Exists.intro)
  refine⟨?_,rfl⟩;have HZ:Hid (Arr w7 wr.heap.size [.int .u8 0,.int .u16 0,.int .u8 0,.int .u8 0,.int .u8 0,.int .u16 0,.int .u8 0,.string ⟨#[]⟩,.bool false]):=(((anw wr #[.int .u8 0,.int .u16 0,.int .u8 0,.int .u8 0,.int .u8 0,.int .u16 0,.int .u8 0,.string ⟨#[]⟩,.bool false] 101).drew).over HBb.o);exact⟨_,rfl,Lh (((((((((HZ.o.set 0 (.int .u8 y.id.pid.author.toNat)).set 1 (.int .u16 y.id.pid.seq.toNat)).set 2 (.int .u8 y.id.n.toNat)).set 3 (.int .u8 y.kind.toNat)).set 4 (.int .u8 y.file.pid.author.toNat)).set 5 (.int .u16 y.file.pid.seq.toNat)).set 6 (.int .u8 y.file.n.toNat)).set 7 (.string y.text)).set 8 (.bool y.dead)),Lh (((((((((HBk.o.setCell (p:=⟨wr.heap.size,0,none⟩) (Nat.le_refl _) (.int .u8 y.id.pid.author.toNat)).setCell (p:=⟨wr.heap.size,1,none⟩) (Nat.le_refl _) (.int .u16 y.id.pid.seq.toNat)).setCell (p:=⟨wr.heap.size,2,none⟩) (Nat.le_refl _) (.int .u8 y.id.n.toNat)).setCell (p:=⟨wr.heap.size,3,none⟩) (Nat.le_refl _) (.int .u8 y.kind.toNat)).setCell (p:=⟨wr.heap.size,4,none⟩) (Nat.le_refl _) (.int .u8 y.file.pid.author.toNat)).setCell (p:=⟨wr.heap.size,5,none⟩) (Nat.le_refl _) (.int .u16 y.file.pid.seq.toNat)).setCell (p:=⟨wr.heap.size,6,none⟩) (Nat.le_refl _) (.int .u8 y.file.n.toNat)).setCell (p:=⟨wr.heap.size,7,none⟩) (Nat.le_refl _) (.string y.text)).setCell (p:=⟨wr.heap.size,8,none⟩) (Nat.le_refl _) (.bool y.dead)),Nat.le_refl _⟩
 obtain⟨g2,rfl,HA2,HBx,hg2⟩:=hcut;rename World=>w8;have HM8:=Lh (HM.o.over HBx.o);have hb8:=bvo hbl HBx.o;have hB8:=hb8.size;have hN8:(stTo (patsOf xs) l v k).length+1≤1099511627776:=by omega
 clear u0 u1 u2 su g0 sg HS HM HGr;obtain⟨y0,y1,y2,y3,y4,y5,y6,y7,y8,sy⟩:=HA2.o.c9;have HQ8:=Lh (HQ2.o.over hb8);obtain⟨q0,q1,q2,sq⟩:=HQ8.o.c3;have hf:fileAt (patsOf xs) u.1=y.file:=HF.o;have HU8:=Lh (HUCB.o w8 hb8);obtain⟨d0,d1,d2,d3,d4,d5,sd⟩:=rc6 HU8.o
 by_cases h1:y.file=v
 ·
  have e2:=eql_vid y.file v true (by simp [h1]);unfold vidV at e2;have HN:=Lh (stTo_yes HUk.o (hf.trans h1));clear h1 hf;go_wp2_with (at_builtin;refine apD slEdge rfl _ _ rfl w2.heap.size _ _ (drf _) 1 _ _ _ HM8.o rfl rfl rfl rfl hN8 (by decide) hB8 ?_;intro v9 w9 ho9 hg9);go_roundw
  case rel=>exact⟨k+1,hlt,by go_num,(by show GOwn _ _ _ _ _ _ _;rw [HN.o];exact GOwn.snoc ho9),bgr hb8 hB8 HM8.o hg9⟩
  simp [intOf];omega
 have e2:=eql_vid y.file v false (by simp [h1]);unfold vidV at e2;have HN:=Lh (stTo_no HUk.o (fun q=>h1 (hf.symm.trans q)));clear h1 hf;go_wp2;go_roundw
 case rel=>exact⟨k+1,hlt,by go_num,(by show GOwn _ _ _ _ _ _ _;rw [HN.o];exact HM8.o),hb8⟩
 simp [intOf];omega
end
section
theorem Row.other{w w':World}{v:Value}{n sz g:Nat}{cs ds:List Value}(h:Row w v n sz cs)(hA:Arr w g ds)(hd:ds.length<sz)(hg:w.grownBy w' (some g)):Row w' v n sz cs:=by
 obtain⟨h1,a,cap,rfl,h2,h3,h4,h5⟩:=h;refine⟨h1,a,cap,rfl,h2,h3,h4,fun hn => ?_⟩;obtain⟨b,off,ha,hb,hc⟩:=h5 hn;have hne:b≠g:=by
  rintro rfl;have hlt:sz - 1<cs.length:=by rw [h1];have:1*sz≤n*sz:=Nat.mul_le_mul_right _ (by omega);omega
  have hcell:=hc (sz - 1) _ (List.getElem?_eq_getElem hlt);obtain⟨e,he⟩:=hA;rw [cell_of_row w b (off+(sz - 1)) _ e (0,0) he] at hcell;have hno:ds[off+(sz - 1)]? = none:=List.getElem?_eq_none (by omega);simp [hno] at hcell
 refine⟨b,off,ha,Nat.lt_of_lt_of_le hb hg.size,fun j u hu => ?_⟩;rw [World.cell?_of_block (hg.block b hb (fun q=>hne (Option.some.inj q)))];exact hc j u hu
theorem rowSh:RowT Tryz.prog 107 3:=rowT_of Tryz.underlying107 rfl (by kernel_rfl)
def R21Res(w:World)(l:List VertM)(R:List (Nat × Nat))(e:Ending)(w':World):Prop:=∃ lv sv,e=.returned (rsV lv l.length sv)∧RSh w' lv sv l R∧Be w w'
theorem r21_mk{w w':World}{l:List VertM}{R:List (Nat × Nat)}{lp sp:Option Addr}{lc sc:Nat}(h:RSh w' (.slice lp l.length lc) (.slice sp R.length sc) l R)(hb:Be w w'):R21Res w l R (.returned (rsV (.slice lp l.length lc) l.length (.slice sp R.length sc))) w':=⟨_,_,rfl,h,hb⟩
attribute [local irreducible] placeM linesM relM stepsM edgesM
theorem r21of_any(gv:Value)(xs:List LaidP)(file:VidM)(w:World)(hv:Pats w gv xs)(hn:xs.length≤300)(hl:∀ x∈xs,x.p.ops.length≤260)(hw:WfG (patsOf xs))(hil:(idsM (patsOf xs)).length≤65536)(hel:(edgesM (patsOf xs)).length≤100000) :
  Calls Tryz.prog 47 #[rgV gv,vidV file] w (R21Res w (linesM (patsOf xs) file) (relM (patsOf xs) file)):=by
 have hvl:(vertsM (patsOf xs)).length≤100000:=by unfold vertsM;rw [List.length_map];omega
 have HLs:=Lh hl;obtain⟨ga,gc,rfl,_,_,_⟩:=hv.1.at encPat_len;have HB0a:=(bnew (w:=w) (.cells #[.slice ga xs.length gc] 34)).alloc (by simp) (.cells (cV file) 74);have HB0:=Lh (HB0a.alloc (by simp;omega) (.cells #[.slice none 0 0,.int .i64 0,.slice none 0 0] 107));have HG:=Lh (((anw w #[.slice ga xs.length gc] 34).alloc (.cells (cV file) 74)).alloc (.cells #[.slice none 0 0,.int .i64 0,.slice none 0 0] 107));have HF:=Lh ((an2 w (.cells #[.slice ga xs.length gc] 34) (cV file) 74).alloc (.cells #[.slice none 0 0,.int .i64 0,.slice none 0 0] 107));have HZ:=Lh (arr_new3 w (.cells #[.slice ga xs.length gc] 34) (.cells (cV file) 74) #[.slice none 0 0,.int .i64 0,.slice none 0 0] 107);have HZt:=Lh (show ArrT (((w.alloc (.cells #[.slice ga xs.length gc] 34)).alloc (.cells (cV file) 74)).alloc (.cells #[.slice none 0 0,.int .i64 0,.slice none 0 0] 107)) (w.heap.size+1+1) 107 [.slice none 0 0,.int .i64 0,.slice none 0 0] from(show((w.alloc (.cells #[.slice ga xs.length gc] 34)).alloc (.cells (cV file) 74)).heap.size=w.heap.size+1+1 by simp)▸arrT_new ((w.alloc (.cells #[.slice ga xs.length gc] 34)).alloc (.cells (cV file) 74)) [.slice none 0 0,.int .i64 0,.slice none 0 0] 107);have HV:=Lh (hv.over HB0.o);have hll:=lines_few (file:=file) hil;have hrf:(relM (patsOf xs) file).length≤1000000:=by rw [relM_length];exact steps_few (by omega)
 have HRLn:=Lh (relM_length (patsOf xs) file);have HAt:=Lh (fun k e=>@relM_at (patsOf xs) file k e);have HEn:=Lh (fun e=>@step_ends (patsOf xs) hw (wf_len hw) file e);have HLt:=Lh (relM_lt hw (wf_len hw) file);have HLM:=Lh (linesM_eq (patsOf xs) file);clear hv hl hw HB0a;unfold rgV vidV;go_enter Tryz.func47,Tryz.ntmps47;go_upto_region 1 with fail;generalize ((w.alloc (.cells #[.slice ga xs.length gc] 34)).alloc (.cells (cV file) 74)).alloc (.cells #[.slice none 0 0,.int .i64 0,.slice none 0 0] 107)=w0 at *;obtain⟨g0,sg⟩:=HG.o.c1;obtain⟨f0,f1,f2,sf⟩:=HF.o.c3;go_wp2_with fail;refine(rof20_any _ xs file 3 _ HV.o hn HLs.o (by omega) hvl).mono ?_;rintro e w1 ⟨lv,rfl,ho1,hb1⟩;rw [HLM.o] at ho1;obtain⟨lp,lc,rfl,z1,z2,_⟩:=ho1.at encVert_len;unfold maxLen at z2;have HO1:=Lh ho1;have HB1:=Lh hb1;have HG1:=Lh (HG.o.over hb1);have HF1:=Lh (HF.o.over hb1);have HZ1:=Lh (HZ.o.over hb1);clear ho1 hb1 g0 sg f0 f1 f2 sf;obtain⟨g0,sg⟩:=HG1.o.c1;obtain⟨f0,f1,f2,sf⟩:=HF1.o.c3;go_wp2_with fail;refine(rsteps20_any _ xs file _ (HV.o.over HB1.o) hn HLs.o hel).mono ?_;rintro e w2 ⟨ev,rfl,ho2,hb2⟩;obtain⟨ep,ec,rfl,y1,y2,hce⟩:=ho2.at encEdge_len;unfold maxLen at y2;have HCE:=Lh hce;have HO2:=Lh (HO1.o.over hb2);have HB2:=Lh (bvo HB1.o hb2);have HZ2:=Lh (HZ1.o.over hb2);clear ho2 hb2 hce g0 sg f0 f1 f2 sf;rw [← HRLn.o] at y1 ⊢;generalize linesM (patsOf xs) file=l at *;go_wp2;go_loopw [7,8] (fun v7 v8 wr=>LoRel w2 (relM (patsOf xs) file) v7 v8 wr) (fun _ v8 _=>(relM (patsOf xs) file).length - (intOf v8).toNat)
 case atStart=>exact⟨0,by omega,rfl,Lh (by rw [List.take_zero];exact gown_nil _ _),Below.refl _ _⟩
 obtain⟨k,hk,rfl,HM,hbl⟩:=hrel;rename World=>wr
 by_cases hlt:k<(relM (patsOf xs) file).length
 ·
  obtain⟨b3,off3,rfl,sb3,hcb⟩:=HCE.o.resolve_left (by rw [← HRLn.o];omega);obtain⟨x,hx⟩:=gol (xs:=stepsM (patsOf xs) file) (i:=k) (by rw [← HRLn.o];exact hlt);have HX:=Lh (HAt.o k x hx);obtain⟨hm1,hm2⟩:=HEn.o x (List.mem_of_getElem? hx);have HM1:=Lh hm1;have HM2:=Lh hm2;have HRx:=Lh (hcb k x hx wr hbl.o);have HOr:=Lh (HO2.o.over hbl.o);obtain⟨x0,x1,x2,x3,x4,x5,sx⟩:=rc6 HRx.o;have hN7:((relM (patsOf xs) file).take k).length+1≤1099511627776:=by rw [List.length_take];omega
  clear hcb hx hm1 hm2;go_wp2_with fail;refine wlo 17 fun hcur=>?_;repeat(first|refine lxq ?_|(refine lxl rfl ?_;go_wp2_with (first|(go_at_call 106;(first|(with_reducible refine(r21place_any _ l x.1 _ (HOr.o.over hcur) HM1.o).mono ?_)|(with_reducible refine(r21place_any _ l x.2 _ (HOr.o.over hcur) HM2.o).mono ?_));rintro e w' ⟨rfl,hb⟩;have hcur:=bvo hcur hb));refine⟨iov (by first|exact hcur|exact hcur.alloc hcur.size _),?_⟩))
  refine lxe ?_;have HM8:=Lh (HM.o.over hcur);have HB8:=Lh (bvo hbl.o hcur);have hB8:=HB8.o.size;clear hcur x0 x1 x2 x3 x4 x5 sx;go_wp2_with (at_builtin;refine apD slPair rfl _ _ rfl w2.heap.size _ _ (drf _) 1 _ _ _ HM8.o rfl rfl rfl rfl hN7 (by decide) hB8 ?_;intro v9 w9 ho9 hg9);go_roundw
  case rel=>exact⟨k+1,hlt,by go_num,Lh (take_snoc HX.o (GOwn.snoc ho9)),bgr HB8.o hB8 HM8.o hg9⟩
  simp [intOf];omega
 obtain rfl:k=(relM (patsOf xs) file).length:=by omega
 have hE:=HM.o;rw [List.take_length] at hE;have HE:=Lh hE;obtain⟨rp,rc,rfl,t1,t2,_⟩:=prow_at hE.row;unfold maxLen at t2;clear hE HM;go_wp2_with fail;refine(r8of_any l.length _ (relM (patsOf xs) file) _ HE.o.row HLt.o hll hrf).mono ?_;rintro e w4 ⟨u,rfl,ho4,hb4⟩;obtain⟨up,uc,rfl,_,_,_⟩:=prow_at ho4.row;have HUo:=Lh ho4;have HZT:=Lh ((HZt.o.over (bvo HB2.o hbl.o)).over hb4);have HBf:=Lh (bvo HB0.o (bvo HB2.o (bvo hbl.o hb4)));have HO4:=Lh ((HO2.o.over hbl.o).over hb4);have HZ4:=Lh ((HZ2.o.over hbl.o).over hb4);clear ho4 hb4;obtain⟨q0,q1,q2,_⟩:=HZ4.o.c3;have qf0:=HZ4.o.free 0;have qf1:=HZ4.o.free 1;have qf2:=HZ4.o.free 2;have sq:=HZ4.o.lt;have hrow:=Row.other (show Row _ _ _ _ _ from HO4.o) HZ4.o (by simp) (gtr (gtr (gsc (g:=w.heap.size+1+1) w4 0 (.slice lp l.length lc)) (gsc _ 1 (.int .i64 l.length))) (gsc _ 2 (.slice up (relM (patsOf xs) file).length uc)));have HRw:=Lh hrow;have hho:GOwn encP 2 169 (((w4.setCell ⟨w.heap.size+1+1,0,none⟩ (.slice lp l.length lc)).setCell ⟨w.heap.size+1+1,1,none⟩ (.int .i64 l.length)).setCell ⟨w.heap.size+1+1,2,none⟩ (.slice up (relM (patsOf xs) file).length uc)) _ (.slice up (relM (patsOf xs) file).length uc) (relM (patsOf xs) file):=
  own_kept (own_kept (own_kept HUo.o (gsc _ _ _) (HZT.o.ne HUo.o (by decide))) (gsc _ _ _) (HZT.o.ne HUo.o (by decide))) (gsc _ _ _) (HZT.o.ne HUo.o (by decide))
 have HUf:=Lh hho.row;have HBg:=Lh (((HBf.o.setCell (p:=⟨w.heap.size+1+1,0,none⟩) (by show w.heap.size≤w.heap.size+1+1;omega) (.slice lp l.length lc)).setCell (p:=⟨w.heap.size+1+1,1,none⟩) (by show w.heap.size≤w.heap.size+1+1;omega) (.int .i64 l.length)).setCell (p:=⟨w.heap.size+1+1,2,none⟩) (by show w.heap.size≤w.heap.size+1+1;omega) (.slice up (relM (patsOf xs) file).length uc));clear hrow hho;go_wp2_with fail;refine bodyPost_ret (v:=rsV (.slice lp l.length lc) l.length (.slice up (relM (patsOf xs) file).length uc)) (results_arr rowSh rfl (((HZ4.o.set 0 _).set 1 _).set 2 _) rfl rfl) rfl ?_;exact r21_mk ⟨HRw.o,HUf.o,by omega,HLt.o,hrf⟩ HBg.o
end
section
variable{R:List (Nat × Nat)}{ms:List Bool}{ks:List Int}{ops:List OpM}{l:List VertM}{at':List VidM}{B c c' c9 gB gT k:Nat}{p p' p9:Option Addr}{e:TypeId}{v:Value}{w w1 w2 w9 wr:World}
theorem own_sep{α β:Type}{enc:α→List Value}{enc':β→List Value}{sz sz':Nat}{e':TypeId}{B':Nat}{v':Value}{xs:List α}{ys:List β}(h:GOwn enc sz e w B v xs)(h':GOwn enc' sz' e' w B' v' ys)(hn:e≠e'):v.ownBlock=none∨v.ownBlock≠v'.ownBlock:=by
 rcases h.2 with⟨rfl,_⟩|⟨g,cap,cur,rfl,_,hg,_⟩
 · exact .inl rfl
 rcases h'.2 with⟨rfl,_⟩|⟨g',cap',cur',rfl,_,hg',_⟩
 · exact .inr (fun q=>by cases q)
 refine .inr (fun q => ?_);simp only [Value.ownBlock,Option.some.injEq] at q;subst q;rw [hg] at hg';simp only [Option.some.injEq,Obj.cells.injEq] at hg';exact hn hg'.2.1
theorem own_by{α β:Type}{enc:α→List Value}{enc':β→List Value}{sz sz':Nat}{e':TypeId}{w':World}{B':Nat}{v':Value}{xs:List α}{ys:List β}(h:GOwn enc sz e w B v xs)(h':GOwn enc' sz' e' w B' v' ys)(hn:e≠e')(hg:w.grownBy w' v'.ownBlock):GOwn enc sz e w' B v xs:=
 own_grown h hg (own_sep h h' hn)
def markV(ms:List Bool):List Value:=ms.map .bool
theorem markV_get{b:Bool}(h:ms[k]? = some b):(markV ms)[k]? = some (.bool b):=by unfold markV;rw [List.getElem?_map,h];rfl
theorem markV_set(ms:List Bool)(k:Nat)(b:Bool):(markV ms).set k (.bool b)=markV (ms.set k b):=by unfold markV;rw [List.map_set]
theorem markV_zero(n:Nat):markV (List.replicate n false)=List.replicate n (.bool false):=by unfold markV;rw [List.map_replicate]
theorem slzBoolE:SlZ Tryz.prog 179 4 (.bool false) 1:=slZ_of Tryz.underlying179 (by kernel_rfl) rfl
theorem sown_form{xs:List ByteArray}(h:GOwn encS1 1 e w B v xs):∃ p c,v=.slice p xs.length c:=by obtain⟨a,cap,e1,_⟩:=h.row.at encS1_len;exact⟨a,cap,e1⟩
theorem dvown_form{xs:List VidM}(h:GOwn encVid 3 e w B v xs):∃ p c,v=.slice p xs.length c:=by obtain⟨a,cap,e1,_⟩:=h.row.at encVid_len;exact⟨a,cap,e1⟩
noncomputable def ftx(l:List VertM)(R:List (Nat × Nat))(k:Nat):List ByteArray:=(firmTo l R k).map (textAt l)
theorem ftx_zero(l:List VertM)(R:List (Nat × Nat)):ftx l R 0=[]:=by unfold ftx;rw [firmTo_zero];rfl
theorem ftx_all(l:List VertM)(R:List (Nat × Nat)):ftx l R (aliveX l R).length=(firmX l R).map (textAt l):=by unfold ftx;rw [firmTo_all]
theorem ftx_yes{i:Nat}{x:VertM}(h:(aliveX l R)[k]? = some i)(hf:firmB R l.length i=true)(hx:l[i]? = some x):ftx l R (k+1)=ftx l R k++[x.text]:=by unfold ftx;rw [firmTo_yes h hf,List.map_append,List.map_cons,List.map_nil,textAt_get hx]
theorem ftx_no{i:Nat}(h:(aliveX l R)[k]? = some i)(hf:firmB R l.length i=false):ftx l R (k+1)=ftx l R k:=by unfold ftx;rw [firmTo_no h hf]
theorem ftx_len(l:List VertM)(R:List (Nat × Nat))(k:Nat):(ftx l R k).length≤l.length:=by unfold ftx;rw [List.length_map];exact firmTo_len l R k
structure FmTx (wr w1:World) (l:List VertM) (R:List (Nat × Nat)) (k:Nat) (v12 v13:Value):Prop where
 firm:GOwn encI 1 3 wr w1.heap.size v12 (firmTo l R k)
 text:GOwn encS1 1 9 wr w1.heap.size v13 (ftx l R k)
 below:Be w1 wr
theorem FmTx.over{v12 v13:Value}(h:FmTx wr w1 l R k v12 v13)(hb:Be wr w2):FmTx w2 w1 l R k v12 v13:=⟨h.firm.over hb,h.text.over hb,bvo h.below hb⟩
structure MkAt (wr w1:World) (gB gT:Nat) (ms:List Bool) (ks:List Int):Prop where
 marks:ArrT wr gB 4 (markV ms)
 kept:ArrT wr gT 3 (keptV1 ks)
 below:Be w1 wr
theorem MkAt.over(h:MkAt wr w1 gB gT ms ks)(hb:Be wr w2):MkAt w2 w1 gB gT ms ks:=⟨h.marks.over hb,h.kept.over hb,bvo h.below hb⟩
theorem MkAt.mark(h:MkAt wr w1 gB gT ms ks)(hg:w1.heap.size≤gB)(k:Nat)(b:Bool):MkAt (wr.setCell ⟨gB,k,none⟩ (.bool b)) w1 gB gT (ms.set k b) ks:=
 ⟨by rw [← markV_set];exact h.marks.set k _,h.kept.set_other (fun e=>(h.marks.ne_type h.kept (by decide)) e.symm) _,h.below.setCell (p:=⟨gB,k,none⟩) hg _⟩
theorem MkAt.keep(h:MkAt wr w1 gB gT ms ks)(hg:w1.heap.size≤gT)(k:Nat)(x:Int):MkAt (wr.setCell ⟨gT,k,none⟩ (.int .i64 x)) w1 gB gT ms (ks.set k x):=
 ⟨h.marks.set_other (h.marks.ne_type h.kept (by decide)) _,by rw [← keptV1_set];exact h.kept.set k _,h.below.setCell (p:=⟨gT,k,none⟩) hg _⟩
structure MkOp (wr w1:World) (gB gT:Nat) (ms:List Bool) (ks:List Int) (p:Option Addr) (c:Nat) (ops:List OpM):Prop where
 ma:MkAt wr w1 gB gT ms ks
 own:GOwn encOp 8 76 wr w1.heap.size (.slice p ops.length c) ops
theorem MkOp.over(h:MkOp wr w1 gB gT ms ks p c ops)(hb:Be wr w2):MkOp w2 w1 gB gT ms ks p c ops:=⟨h.ma.over hb,h.own.over hb⟩
theorem MkOp.op{ops9:List OpM}(h:MkOp wr w1 gB gT ms ks p c ops)(ho:GOwn encOp 8 76 w9 w1.heap.size (.slice p9 ops9.length c9) ops9)(hg:wr.grownBy w9 (Value.slice p ops.length c).ownBlock):MkOp w9 w1 gB gT ms ks p9 c9 ops9:=
 ⟨⟨h.ma.marks.kept hg (h.ma.marks.ne h.own (by decide)),h.ma.kept.kept hg (h.ma.kept.ne h.own (by decide)),bgr h.ma.below h.ma.below.size h.own hg⟩,ho⟩
structure MkNm (wr w1:World) (gB gT:Nat) (ms:List Bool) (ks:List Int) (p:Option Addr) (c:Nat) (ops:List OpM) (p':Option Addr) (c':Nat) (at':List VidM):Prop where
 mo:MkOp wr w1 gB gT ms ks p c ops
 names:GOwn encVid 3 74 wr w1.heap.size (.slice p' at'.length c') at'
theorem MkNm.over(h:MkNm wr w1 gB gT ms ks p c ops p' c' at')(hb:Be wr w2):MkNm w2 w1 gB gT ms ks p c ops p' c' at':=⟨h.mo.over hb,h.names.over hb⟩
theorem MkNm.op{ops9:List OpM}(h:MkNm wr w1 gB gT ms ks p c ops p' c' at')(ho:GOwn encOp 8 76 w9 w1.heap.size (.slice p9 ops9.length c9) ops9)(hg:wr.grownBy w9 (Value.slice p ops.length c).ownBlock):MkNm w9 w1 gB gT ms ks p9 c9 ops9 p' c' at':=
 ⟨h.mo.op ho hg,own_by h.names h.mo.own (by decide) hg⟩
theorem MkNm.name{at9:List VidM}(h:MkNm wr w1 gB gT ms ks p c ops p' c' at')(ho:GOwn encVid 3 74 w9 w1.heap.size (.slice p9 at9.length c9) at9)(hg:wr.grownBy w9 (Value.slice p' at'.length c').ownBlock):MkNm w9 w1 gB gT ms ks p c ops p9 c9 at9:=
 ⟨⟨⟨h.mo.ma.marks.kept hg (h.mo.ma.marks.ne h.names (by decide)),h.mo.ma.kept.kept hg (h.mo.ma.kept.ne h.names (by decide)),bgr h.mo.ma.below h.mo.ma.below.size h.names hg⟩,own_by h.mo.own h.names (by decide) hg⟩,ho⟩
theorem vown_more{xs ys:List VidM}{o:VidM}(h:GOwn encVid 3 e w B v (xs++[o]))(hy:ys=xs++[o]):∃(p:Option Addr) (c:Nat),v=.slice p ys.length c∧GOwn encVid 3 e w B v ys:=by subst hy;obtain⟨p,c,e⟩:=dvown_form h;exact⟨p,c,e,h⟩
end
def LaRel(w1:World)(l:List VertM)(R:List (Nat × Nat))(v12 v13 v14:Value)(wr:World):Prop:=∃ k:Nat,k≤(aliveX l R).length∧v14=.int .i64 k∧Hid (FmTx wr w1 l R k v12 v13)
def LbRel(w1:World)(gB gT n m:Nat)(v18:Value)(wr:World):Prop:=∃ j:Nat,j≤m∧v18=.int .i64 j∧Hid (MkAt wr w1 gB gT (List.replicate n false) (minus j m))
def LcRel(w1:World)(gB gT n m:Nat)(firm:List Nat)(ps:List (Nat × Nat))(v19:Value)(wr:World):Prop:=∃ k:Nat,k≤ps.length∧v19=.int .i64 k∧Hid (MkAt wr w1 gB gT (marksTo firm (ps.take k) n) (keptTo firm (ps.take k) m))
def LdRel(w3:World)(gB gT:Nat)(l:List VertM)(al:List Nat)(ms:List Bool)(ks:List Int)(v20 v21:Value)(wr:World):Prop:=∃(q:Nat) (ops:List OpM) (p:Option Addr) (c:Nat),q≤al.length∧v21=.int .i64 q∧v20=.slice p ops.length c∧Hid (ops=killsE l (al.take q) ks)∧Hid (MkOp wr w3 gB gT ms ks p c ops)
def LeRel(w3:World)(gB gT:Nat)(l:List VertM)(file:VidM)(id:PidM)(from':Nat)(ms:List Bool)(ks:List Int)(want:List ByteArray)(kl:List OpM)(m:Nat)(v20 v22 v23:Value)(wr:World):Prop:=
 ∃(j:Nat) (ops:List OpM) (at':List VidM) (p:Option Addr) (c:Nat) (p':Option Addr) (c':Nat),j≤m∧v23=.int .i64 j∧v20=.slice p ops.length c∧v22=.slice p' at'.length c'∧Hid ((ops,at')=addsTo l file id from' ks want kl j)∧Hid (MkNm wr w3 gB gT ms ks p c ops p' c' at')
def LfRel(w3:World)(gB gT:Nat)(R:List (Nat × Nat))(ms:List Bool)(ks:List Int)(at':List VidM)(ops0:List OpM)(m:Nat)(p':Option Addr)(c':Nat)(v20 v24:Value)(wr:World):Prop:=
 ∃(q:Nat) (ops:List OpM) (p:Option Addr) (c:Nat),(q+1≤m∨q=0)∧v24=.int .i64 ((q:Int)+1)∧v20=.slice p ops.length c∧Hid (ops=ops0++tiesTo R ks at' (q+1))∧Hid (MkNm wr w3 gB gT ms ks p c ops p' c' at')
attribute [local irreducible] keptV1 markV minus keptTo marksTo textAt firmX aliveX firmTo ftx firmB killsE addsTo tiesTo
theorem r27ops_any(lv sv wv:Value)(l:List VertM)(R:List (Nat × Nat))(file:VidM)(id:PidM)(from':Nat)(want:List ByteArray)(w:World)(h:RSh w lv sv l R)(hl:l.length≤1000)(hw:SRow w wv want)(hm:want.length≤1000)(hf:from'≤4000000) :
  Calls Tryz.prog 46 #[rsV lv l.length sv,vidV file,pidV id,.int .i64 from',wv] w (OwnRes encOp 8 76 w (editM l R (aliveX l R) (firmX l R) file id from' want (pairs ((firmX l R).map (textAt l)) want))):=by
 rw [edit_eq];obtain⟨lp,lc,sp,sc,rfl,rfl,hlc⟩:=h.form;unfold maxLen at hlc;have HBX:=((bnew (w:=w) (.cells #[.slice lp l.length lc,.int .i64 l.length,.slice sp R.length sc] 107)).alloc (by simp) (.cells (cV file) 74)).alloc (by simp;omega) (.cells (cP id) 25);have HS:=Lh (h.over HBX);have HW:=Lh (hw.over HBX);have HG:=Lh (((anw w #[.slice lp l.length lc,.int .i64 l.length,.slice sp R.length sc] 107).alloc (.cells (cV file) 74)).alloc (.cells (cP id) 25));have HF:=Lh ((an2 w (.cells #[.slice lp l.length lc,.int .i64 l.length,.slice sp R.length sc] 107) (cV file) 74).alloc (.cells (cP id) 25));have HI:=Lh (arr_new3 w (.cells #[.slice lp l.length lc,.int .i64 l.length,.slice sp R.length sc] 107) (.cells (cV file) 74) (cP id) 25);have HB:=Lh HBX;obtain⟨wa,wc,rfl,z1,z2,_⟩:=SRow.form hw;unfold maxLen at z2;clear h hw HBX;unfold rsV vidV pidV;go_enter Tryz.func46,Tryz.ntmps46;go_upto_region 1 with fail;generalize ((w.alloc (.cells #[.slice lp l.length lc,.int .i64 l.length,.slice sp R.length sc] 107)).alloc (.cells (cV file) 74)).alloc (.cells (cP id) 25)=w0 at *;obtain⟨g0,g1,g2,sg⟩:=HG.o.c3;go_wp2_with fail;refine(r21alive_any _ _ l R _ HS.o).mono ?_;rintro e w1 ⟨av,rfl,ho1,hb1⟩;obtain⟨aa,ac,rfl,y1,y2,hca⟩:=irow_at ho1.row;unfold maxLen at y2;have HA:=Lh ho1;have HCA:=Lh hca;have HB1:=Lh hb1;have HG1:=Lh (HG.o.over hb1);have HS1:=Lh (HS.o.over hb1);have hal:=aliveX_len l R;clear ho1 hb1 hca g0 g1 g2 sg;go_wp2;go_loopw [12,13,14] (fun v12 v13 v14 wr=>LaRel w1 l R v12 v13 v14 wr) (fun _ _ v14 _=>(aliveX l R).length - (intOf v14).toNat)
 case atStart=>exact⟨0,by omega,rfl,⟨by rw [firmTo_zero];exact gown_nil _ _,by rw [ftx_zero];exact gown_nil _ _,Below.refl _ _⟩⟩
 obtain⟨k,hk,rfl,HM⟩:=hrel;rename World=>wr;have HGr:=Lh (HG1.o.over HM.o.below);have HSr:=Lh (HS1.o.over HM.o.below);obtain⟨g0,g1,g2,sg⟩:=HGr.o.c3;have hfl:=firmTo_len l R k;have hxl:=ftx_len l R k
 by_cases hlt:k<(aliveX l R).length
 ·
  obtain⟨b,off,rfl,sb,hcb⟩:=HCA.o.resolve_left (by omega);obtain⟨i,hi⟩:=gol hlt;obtain⟨sx,x0⟩:=hcb k i hi _ HM.o.below;have hil:=aliveX_lt (List.mem_of_getElem? hi);obtain⟨x,hx⟩:=gol hil;have HX:=Lh hx;have HIx:=Lh hi;have HCb:=Lh hcb;clear hcb hi hx;cases hfb:firmB R l.length i with
  | false =>
   have HV:=Lh hfb;have HN1:=Lh (firmTo_no HIx.o hfb);have HN2:=Lh (ftx_no HIx.o hfb);clear hfb;go_wp2_with fail;refine wlo 6 fun hcur=>?_;(repeat(first|refine lxq ?_|(refine lxl rfl ?_;go_wp2_with (first|(go_at_call 102;(with_reducible refine(r21firm_any _ _ l R i _ (HSr.o.over hcur) hil).mono ?_);rintro e w' ⟨rfl,hb⟩;rw [HV.o];have hcur:=bvo hcur hb));refine⟨iov hcur,?_⟩)));refine lxe ?_;have HM2:=Lh (HM.o.over hcur);clear hcur g0 g1 g2 sg x0 sx;go_wp2;go_roundw
   case rel=>exact⟨k+1,hlt,by go_num,⟨by rw [HN1.o];exact HM2.o.firm,by rw [HN2.o];exact HM2.o.text,HM2.o.below⟩⟩
   simp [intOf];omega
  | true =>
   have HV:=Lh hfb;have HN1:=Lh (firmTo_yes HIx.o hfb);have HN2:=Lh (ftx_yes HIx.o hfb HX.o);have hN1:(firmTo l R k).length+1≤1099511627776:=(by omega);have hN2:(ftx l R k).length+1≤1099511627776:=(by omega);clear hfb;go_wp2_with fail;refine wlo 6 fun hcur=>?_;(repeat(first|refine lxq ?_|(refine lxl rfl ?_;go_wp2_with (first|(go_at_call 102;(with_reducible refine(r21firm_any _ _ l R i _ (HSr.o.over hcur) hil).mono ?_);rintro e w' ⟨rfl,hb⟩;rw [HV.o];have hcur:=bvo hcur hb));refine⟨iov hcur,?_⟩)));refine lxe ?_;have HM2:=Lh (HM.o.over hcur);clear hcur g0 g1 g2 sg x0 sx;rename World=>w2;obtain⟨sx,x0⟩:=HCb.o k i HIx.o _ HM2.o.below;have hB2:=HM2.o.below.size;have HFo:=Lh HM2.o.firm;go_upto_region 9 with(at_builtin;(first|refine apD slIntI rfl _ _ rfl w1.heap.size _ _ (dad _ _ _) 1 _ _ _ HFo.o rfl rfl rfl rfl hN1 (by decide) hB2 ?_|refine apD slIntI rfl _ _ rfl w1.heap.size _ _ (drf _) 1 _ _ _ HFo.o rfl rfl rfl rfl hN1 (by decide) hB2 ?_);intro v9 w9 ho9 hg9)
   have HF9:=Lh (show GOwn encI 1 3 w9 w1.heap.size v9 (firmTo l R (k+1)) by rw [HN1.o];exact GOwn.snoc ho9);have HT9:=Lh (own_by HM2.o.text HFo.o (by decide) hg9);have HB9:=Lh (bgr HM2.o.below hB2 HFo.o hg9);clear ho9 hg9 x0 sx;obtain⟨sx,x0⟩:=HCb.o k i HIx.o _ HB9.o;have HG9:=Lh (HG1.o.over HB9.o);obtain⟨g0,g1,g2,sg⟩:=HG9.o.c3;obtain⟨a7,c7,e7,q1,q2,hc7⟩:=(HS1.o.over HB9.o).row.at encVert_len;cases e7
   obtain⟨b7,off7,rfl,sb7,hcb7⟩:=hc7.resolve_left (by omega);have s7:=(hcb7 i x HX.o _ (Below.refl _ _)).1;have x7:w9.cell? ⟨b7,off7+i*9+7,none⟩=some (.string x.text):=(hcb7 i x HX.o _ (Below.refl _ _)).2 7 _ rfl;have hB9:=HB9.o.size;go_simp;refine wlo 11 fun hcur=>?_;(repeat(first|refine lxq ?_|(refine lxl rfl ?_;go_wp2_with (first|(fail));refine⟨iov (by first|exact hcur|exact hcur.alloc hcur.size _),?_⟩)));refine lxe ?_;clear hcur;go_wp2_with (at_builtin;(first|refine apD slStrE rfl _ _ rfl w1.heap.size _ _ (dad _ _ _) 1 _ _ _ HT9.o rfl rfl rfl rfl hN2 (by decide) hB9 ?_|refine apD slStrE rfl _ _ rfl w1.heap.size _ _ (drf _) 1 _ _ _ HT9.o rfl rfl rfl rfl hN2 (by decide) hB9 ?_);intro v10 w10 ho10 hg10);go_roundw
   case rel=>exact⟨k+1,hlt,by go_num,⟨own_by HF9.o HT9.o (by decide) hg10,by rw [HN2.o];exact GOwn.snoc ho10,bgr HB9.o hB9 HT9.o hg10⟩⟩
   simp [intOf];omega
 obtain rfl:k=(aliveX l R).length:=by omega
 have hF:=HM.o.firm;rw [firmTo_all] at hF;have hT:=HM.o.text;rw [ftx_all] at hT;obtain⟨tx,htx⟩:∃ tx,tx=(firmX l R).map (textAt l):=⟨_,rfl⟩;rw [← htx] at hT;have htl:tx.length=(firmX l R).length:=by rw [htx,List.length_map]
 have htl2:tx.length≤1000:=by rw [htl];exact Nat.le_trans (firmX_len l R) hl
 obtain⟨fp,fc,rfl⟩:=own_form hF;obtain⟨tp,tc,rfl⟩:=sown_form hT;obtain⟨m,hmm⟩:∃ m,m=want.length:=⟨_,rfl⟩;rw [← hmm] at hm ⊢;have HMM:=Lh hmm;have HTX:=Lh htx;have HTL:=Lh htl;have HF1:=Lh hF;have HT1:=Lh (srow_of hT.row);have HB2:=Lh (bvo HB1.o HM.o.below);clear hF hT htx hmm htl g0 g1 g2 sg;go_wp2_with fail;refine(rmatch_any _ _ tx want _ HT1.o (by(have hww:=HW.o.over HB2.o);rw [← HMM.o] at hww;exact hww) htl2 (by rw [← HMM.o];exact hm)).mono ?_;rintro e w3 ⟨mv,Bm,rfl,ho3,hBm1,hBm2,hb3⟩;have HPI:Hid (∀ p∈pairs tx want,p.1<(firmX l R).length∧p.2<m):=fun p hp=>by obtain⟨q1,q2,_⟩:=ePairs_in hp;rw [HTL.o] at q1;exact⟨q1,by rw [HMM.o];exact q2⟩
 have HMA:Hid (∀ i,i<l.length→(marksTo (firmX l R) (pairs tx want) l.length)[i]? = some ((keptTo (firmX l R) (pairs tx want) m).contains (Int.ofNat i))):=fun i hi=>by rw [HMM.o];exact marks_at HTL.o hi
 have HKI:Hid (∀(j:Nat) (x:Int),(keptTo (firmX l R) (pairs tx want) m)[j]? = some x→x = -1∨∃ i:Nat,x=(i:Int)∧i<l.length):=fun j x hx=>by
  refine kept_is (fun i hi=>firmX_lt hi) ?_ hx;rcases Nat.eq_zero_or_pos l.length with h0|h0
  · refine .inr (List.eq_nil_iff_forall_not_mem.2 fun p hp => ?_);have h1:=(HPI.o p hp).1;have:=firmX_len l R;omega
  exact .inl h0
 obtain⟨ps,hps⟩:∃ ps,ps=pairs tx want:=⟨_,rfl⟩;rw [← hps] at ho3 HPI HMA HKI;have HPS:=Lh hps;have ho3':GOwn encP 2 169 w3 Bm mv ps:=ho3;obtain⟨mp,mc,rfl,u1,u2,hcp⟩:=prow_at ho3'.row;unfold maxLen at u2;have HCP:=Lh hcp;have HB3:=Lh (bvo HM.o.below hb3);obtain⟨ff,ffc,eF,v1,v2,hcf⟩:=irow_at (HF1.o.over hb3).row;cases eF
 unfold maxLen at v2;have HCF:=Lh hcf;have HG3:=Lh (HG1.o.over HB3.o);have HS3:=Lh (HS1.o.over HB3.o);have hq1:1*l.length≤281474976710656:=by omega
 have hq2:8*m≤281474976710656:=by omega
 have hn1:l.length≤maxLen:=by unfold maxLen;omega
 have hn2:m≤maxLen:=by unfold maxLen;omega
 clear ho3 ho3' hps hcp hcf hb3 hBm1 hBm2;obtain⟨g0,g1,g2,sg⟩:=HG3.o.c3;go_upto_region 12 with(at_make;refine wpList_make_zeros slzBoolE rfl _ _ rfl w3.heap.size l.length _ rfl rfl rfl hq1 hn1 (Nat.le_refl _) ?_;intro w4 ho4 hg4)
 have HB4:=Lh (grown_over' hg4 (fun g hg=>by cases hg));have hA4:=(own_full ho4).1;clear g0 g1 g2 sg;go_upto_region 13 with(at_make;refine wpList_make_zeros slzIntE rfl _ _ rfl w4.heap.size m _ rfl rfl rfl hq2 hn2 (Nat.le_refl _) ?_;intro w5 ho5 hg5)
 have HB5:=Lh (grown_over' hg5 (fun g hg=>by cases hg));have hA5:=(own_full ho5).1;rw [← minus_zero] at hA5;rw [← markV_zero] at hA4;have hg3l:w3.heap.size≤w4.heap.size:=HB4.o.size;obtain⟨gB,hgB⟩:∃ gB,gB=w3.heap.size:=⟨_,rfl⟩;obtain⟨gT,hgT⟩:∃ gT,gT=w4.heap.size:=⟨_,rfl⟩;rw [← hgB] at hA4;rw [← hgT] at hA5;rw [← hgB,← hgT];have hBl:w3.heap.size≤gB:=by omega
 have hTl:w3.heap.size≤gT:=by omega
 have HMK:Hid (MkAt w5 w3 gB gT (List.replicate l.length false) (minus 0 m)):=⟨hA4.over HB5.o,hA5,bvo HB4.o HB5.o⟩;clear hA4 hA5 ho4 ho5 hg4 hg5 hgB hgT HB4 HB5 hg3l;go_wp2;go_loopw [18] (fun v18 wq=>LbRel w3 gB gT l.length m v18 wq) (fun v18 _=>m - (intOf v18).toNat)
 case atStart=>exact⟨0,by omega,rfl,HMK⟩
 obtain⟨j,hj,rfl,HK⟩:=hrel;rename World=>wq;have HL2:=Lh (minus_len j m)
 by_cases hlt:j<m
 ·
  have t0:=HK.o.kept.arr.cell (keptV1_get (minus_get (j:=j) hlt));have tf:=HK.o.kept.arr.free j;have st:=HK.o.kept.arr.lt;have HK2:=Lh (HK.o.keep hTl j (-1));rw [minus_set hlt] at HK2;go_wp2;go_roundw
  case rel=>exact⟨j+1,hlt,by go_num,HK2⟩
  simp [intOf];omega
 obtain rfl:m=j:=by omega
 have HK0:Hid (MkAt wq w3 gB gT (marksTo (firmX l R) (ps.take 0) l.length) (keptTo (firmX l R) (ps.take 0) m)):=by show MkAt _ _ _ _ _ _;rw [marks_zero,← kp_zero];exact HK.o
 go_wp2;go_loopw [19] (fun v19 wr=>LcRel w3 gB gT l.length m (firmX l R) ps v19 wr) (fun v19 _=>ps.length - (intOf v19).toNat)
 case atStart=>exact⟨0,by omega,rfl,HK0⟩
 obtain⟨k,hk,rfl,HC⟩:=hrel;rename World=>wr
 by_cases hlt:k<ps.length
 ·
  obtain⟨b7,off7,rfl,sb7,hcb7⟩:=HCP.o.resolve_left (by omega);obtain⟨p,hp⟩:=gol hlt;obtain⟨hp1,hp2⟩:=HPI.o p (List.mem_of_getElem? hp);have HP1:=Lh (kept_succ (firm:=firmX l R) (m:=m) hp);have HP2:=Lh (marks_succ (firm:=firmX l R) (n:=l.length) hp);obtain⟨sx,x0,x1⟩:=hcb7 k p hp _ HC.o.below;obtain⟨ip,jp⟩:=p;simp only at hp1 hp2 x0 x1;obtain⟨fi,hfi⟩:=gol hp1;have hfn:fi<l.length:=firmX_lt (List.mem_of_getElem? hfi);obtain⟨bf,offf,rfl,sbf,hcbf⟩:=HCF.o.resolve_left (by omega);obtain⟨sf,f0⟩:=hcbf ip fi hfi _ HC.o.below;have HFI:=Lh hfi;have HEq:Hid ((firmX l R).getD (ip,jp).1 0=fi):=by show _=_;rw [getD_of hfi]
  have hml:=marks_len (firmX l R) (ps.take k) l.length;obtain⟨bb,hbb⟩:=gol (xs:=marksTo (firmX l R) (ps.take k) l.length) (i:=fi) (by rw [hml];exact hfn);have b0:=HC.o.marks.arr.cell (markV_get hbb);have bf0:=HC.o.marks.arr.free fi;have sb:=HC.o.marks.arr.lt;have HCb7:=Lh hcb7;have HCbf:=Lh hcbf;have HPp:=Lh hp;have hkl:=kept_length (firmX l R) (ps.take k) m;obtain⟨y,hy⟩:=gol (xs:=keptTo (firmX l R) (ps.take k) m) (i:=jp) (by rw [hkl];exact hp2);have HYy:=Lh hy;clear hcb7 hp hfi hcbf hbb hml hkl hy;go_upto_region 21 with fail;have HC1:=Lh (HC.o.mark hBl fi true);generalize wr.setCell ⟨gB,fi,none⟩ (.bool true)=w6 at *;clear b0 bf0 sb x0 x1 sx f0 sf;obtain⟨sx,x0,x1⟩:=HCb7.o k (ip,jp) HPp.o _ HC1.o.below;simp only at x0 x1;obtain⟨sf,f0⟩:=HCbf.o ip fi HFI.o _ HC1.o.below;have t0:=HC1.o.kept.arr.cell (keptV1_get HYy.o);have tf:=HC1.o.kept.arr.free jp;have st:=HC1.o.kept.arr.lt;have HC2:=Lh (HC1.o.keep hTl jp (fi:Int));have hE1:=HP1.o;have hE2:=HP2.o;rw [HEq.o] at hE1 hE2;rw [← hE1,← hE2] at HC2;clear hE1 hE2;go_simp;refine wlo 15 fun hcur=>?_;repeat refine lxq ?_
  refine lxe ?_;clear hcur;go_wp2;go_roundw
  case rel=>exact⟨k+1,hlt,by go_num,HC2.o.over (Below.refl _ _).drew⟩
  simp [intOf];omega
 obtain rfl:k=ps.length:=by omega
 have hC:=HC.o;rw [List.take_length] at hC;have HCe:=Lh hC;have HKn:=Lh (kept_length (firmX l R) ps m);have HMLn:=Lh (marks_len (firmX l R) ps l.length);clear hC HC;obtain⟨ks,hks⟩:∃ ks,ks=keptTo (firmX l R) ps m:=⟨_,rfl⟩;obtain⟨ms,hms⟩:∃ ms,ms=marksTo (firmX l R) ps l.length:=⟨_,rfl⟩;rw [← hks,← hms] at HCe;rw [← hks] at HKn HMA HKI;rw [← hms] at HMA;have HKS:=Lh hks;have HKW:Hid (ks.length=want.length):=by show _=_;rw [HKn.o,HMM.o]
 have hkil:=Nat.le_trans (kills_len l ks (aliveX l R)) (aliveX_len l R);rw [← hms] at HMLn;clear hks hms;go_wp2;go_loopw [20,21] (fun v20 v21 wq=>LdRel w3 gB gT l (aliveX l R) ms ks v20 v21 wq) (fun _ v21 _=>(aliveX l R).length - (intOf v21).toNat)
 case atStart=>exact⟨0,[],none,0,by omega,rfl,rfl,Lh (kills_zero l ks (aliveX l R)).symm,⟨HCe.o,gown_nil _ _⟩⟩
 obtain⟨q,ops,p,c,hq,rfl,rfl,HO,HP⟩:=hrel;rename World=>wr;have hol:ops.length≤l.length:=by rw [HO.o];refine Nat.le_trans (kills_len l ks _) ?_;rw [List.length_take];omega
 have HBr:=Lh (bvo HB3.o HP.o.ma.below)
 by_cases hlt:q<(aliveX l R).length
 ·
  obtain⟨b,off,rfl,sb,hcb⟩:=HCA.o.resolve_left (by omega);obtain⟨i,hi⟩:=gol hlt;obtain⟨sx,x0⟩:=hcb q i hi _ HBr.o;have hil:=aliveX_lt (List.mem_of_getElem? hi);obtain⟨x,hx⟩:=gol hil;have b0:=HP.o.ma.marks.arr.cell (markV_get (HMA.o i hil));have sm:=HP.o.ma.marks.arr.lt;have HX:=Lh hx;have HIx:=Lh hi;have HKV:=Lh (killV5_at hx);clear hcb hi hx;cases hcn:ks.contains (Int.ofNat i) with
  | true =>
   have HN:=Lh (kills_no (l:=l) HIx.o hcn);rw [hcn] at b0;clear hcn;go_wp2;go_roundw
   case rel=>exact⟨q+1,ops,p,c,hlt,by go_num,rfl,Lh (by rw [HN.o];exact HO.o),HP⟩
   simp [intOf];omega
  | false =>
   have HN:=Lh (kills_yes (l:=l) HIx.o hcn);rw [HKV.o] at HN;rw [hcn] at b0;have HGr:=Lh (HG1.o.over HBr.o);obtain⟨g0,g1,g2,sg⟩:=HGr.o.c3;obtain⟨a7,c7,e7,q1,q2,hc7⟩:=(HS1.o.over HBr.o).row.at encVert_len;cases e7
   obtain⟨b7,off7,rfl,sb7,hcb7⟩:=hc7.resolve_left (by omega);have s7:=(hcb7 i x HX.o _ (Below.refl _ _)).1;have e0:wr.cell? ⟨b7,off7+i*9,none⟩=some (.int .u8 x.id.pid.author.toNat):=(hcb7 i x HX.o _ (Below.refl _ _)).2 0 _ rfl;have e1:wr.cell? ⟨b7,off7+i*9+1,none⟩=some (.int .u16 x.id.pid.seq.toNat):=(hcb7 i x HX.o _ (Below.refl _ _)).2 1 _ rfl;have e2:wr.cell? ⟨b7,off7+i*9+2,none⟩=some (.int .u8 x.id.n.toNat):=(hcb7 i x HX.o _ (Below.refl _ _)).2 2 _ rfl;have hN3:ops.length+1≤1099511627776:=(by omega);have hB3:=HP.o.ma.below.size;have HOw:=Lh HP.o.own;obtain⟨ops9,hops9⟩:∃ z,z=ops++[(⟨5,x.id,noVid,⟨#[]⟩⟩:OpM)]:=⟨_,rfl⟩;have HO9e:=Lh hops9;have HN9:Hid (ops9=killsE l ((aliveX l R).take (q+1)) ks):=(by show _=_;rw [HN.o,← HO.o];exact hops9);clear hcn hops9 hc7 hcb7;go_wp2_with fail;refine wlo 12 fun hcur=>?_;(repeat(first|refine lxq ?_|(refine lxl rfl ?_;go_wp2_with (first|(fail));refine⟨iov (by first|exact hcur|exact hcur.alloc hcur.size _),?_⟩)));refine lxe ?_;clear hcur;go_wp2_with ((at_builtin;(first|refine apD slOp rfl _ _ rfl w3.heap.size _ _ (dad _ _ _) 1 _ _ _ HOw.o rfl rfl rfl rfl hN3 (by decide) hB3 ?_|refine apD slOp rfl _ _ rfl w3.heap.size _ _ (drf _) 1 _ _ _ HOw.o rfl rfl rfl rfl hN3 (by decide) hB3 ?_);intro v9 w9 ho9 hg9);(obtain⟨p9,c9,e9,hO9⟩:=oown_more (GOwn.snoc (x:=(⟨5,x.id,noVid,⟨#[]⟩⟩:OpM)) ho9) HO9e.o);subst e9;have HO9:=Lh hO9;have HG9:=Lh hg9;clear ho9 hg9 hO9);go_roundw
   case rel=>exact⟨q+1,ops9,p9,c9,hlt,by go_num,rfl,HN9,HP.o.op HO9.o HG9.o⟩
   simp [intOf];omega
 obtain rfl:q=(aliveX l R).length:=by omega
 have hO:=HO.o;rw [List.take_length] at hO;have HKLL:=Lh hO;clear HO hO;obtain⟨kl,hkl⟩:∃ kl,kl=killsE l (aliveX l R) ks:=⟨_,rfl⟩;have HKL2:=Lh hkl;have HOK:Hid (ops=kl):=by show _=_;rw [hkl];exact HKLL.o
 have hkil2:kl.length≤l.length:=by rw [hkl];exact hkil
 have HNm0:Hid (MkNm wr w3 gB gT ms ks p c ops none 0 []):=⟨HP.o,gown_nil _ _⟩;clear hkl;go_wp2;go_loopw [20,22,23] (fun v20 v22 v23 wq=>LeRel w3 gB gT l file id from' ms ks want kl m v20 v22 v23 wq) (fun _ _ v23 _=>m - (intOf v23).toNat)
 case atStart=>exact⟨0,ops,[],p,c,none,0,by omega,rfl,rfl,rfl,Lh (by rw [HOK.o];exact adds_zero.symm),HNm0⟩
 obtain⟨j,ops,at',p,c,p',c',hj,rfl,rfl,rfl,HAD,HP⟩:=hrel;rename World=>wr;obtain⟨hal2,hol2⟩:=adds_both HKW.o (by rw [← HMM.o];exact hj) HAD.o;have HBr:=Lh (bvo HB3.o HP.o.mo.ma.below);have HB0:=Lh (bvo HB1.o HBr.o);have hatl:at'.length≤m:=by omega
 by_cases hlt:j<m
 ·
  obtain⟨x,hx⟩:=gol (xs:=ks) (i:=j) (by rw [HKn.o];exact hlt);obtain⟨t,ht⟩:=gol (xs:=want) (i:=j) (by rw [← HMM.o];exact hlt);have k0:=HP.o.mo.ma.kept.arr.cell (keptV1_get hx);have sk:=HP.o.mo.ma.kept.arr.lt;have HX:=Lh hx;have HTx:=Lh ht;have hN1:at'.length+1≤1099511627776:=by omega
  have hN2:ops.length+1≤1099511627776:=by omega
  clear ht hal2;rcases HKI.o j x hx with hx1|⟨i,hx1,hil⟩
  rotate_left
  ·
   subst hx1;obtain⟨x,hxv⟩:=gol hil;have HX2:=Lh hxv;have HAD2:=Lh (adds_next1 HX.o HTx.o hxv HAD.o);have HGr:=Lh (HG1.o.over HBr.o);obtain⟨g0,g1,g2,sg⟩:=HGr.o.c3;obtain⟨a7,c7,e7,q1,q2,hc7⟩:=(HS1.o.over HBr.o).row.at encVert_len;cases e7
   obtain⟨b7,off7,rfl,sb7,hcb7⟩:=hc7.resolve_left (by omega);have s7:=(hcb7 i x HX2.o _ (Below.refl _ _)).1;have e0:wr.cell? ⟨b7,off7+i*9,none⟩=some (.int .u8 x.id.pid.author.toNat):=(hcb7 i x HX2.o _ (Below.refl _ _)).2 0 _ rfl;have e1:wr.cell? ⟨b7,off7+i*9+1,none⟩=some (.int .u16 x.id.pid.seq.toNat):=(hcb7 i x HX2.o _ (Below.refl _ _)).2 1 _ rfl;have e2:wr.cell? ⟨b7,off7+i*9+2,none⟩=some (.int .u8 x.id.n.toNat):=(hcb7 i x HX2.o _ (Below.refl _ _)).2 2 _ rfl;have hB4:=HP.o.mo.ma.below.size;have HNo:=Lh HP.o.names;obtain⟨at9,hat9⟩:∃ z,z=at'++[x.id]:=⟨_,rfl⟩;have HA9e:=Lh hat9;rw [← hat9] at HAD2;clear hx hxv hat9 hc7 hcb7;go_wp2_with fail;refine wlo 11 fun hcur=>?_;(repeat(first|refine lxq ?_|(refine lxl rfl ?_;go_wp2_with (first|(fail));refine⟨iov (by first|exact hcur|exact hcur.alloc hcur.size _),?_⟩)));refine lxe ?_;clear hcur;go_wp2_with ((at_builtin;(first|refine apD slVidE rfl _ _ rfl w3.heap.size _ _ (dad _ _ _) 1 _ _ _ HNo.o rfl rfl rfl rfl hN1 (by decide) hB4 ?_|refine apD slVidE rfl _ _ rfl w3.heap.size _ _ (drf _) 1 _ _ _ HNo.o rfl rfl rfl rfl hN1 (by decide) hB4 ?_);intro v9 w9 ho9 hg9);(obtain⟨p9,c9,e9,hO9⟩:=vown_more (GOwn.snoc (x:=x.id) ho9) HA9e.o);subst e9;have HO9:=Lh hO9;have HG9:=Lh hg9;clear ho9 hg9 hO9);go_roundw
   case rel=>exact⟨j+1,ops,at9,p,c,p9,c9,hlt,by go_num,rfl,rfl,HAD2,HP.o.name HO9.o HG9.o⟩
   simp [intOf];omega
  subst hx1;have HI4:=Lh (HI.o.over HB0.o);obtain⟨i0,i1,si⟩:=HI4.o.c2;obtain⟨N,hN⟩:∃ N,from'+ops.length=N:=⟨_,rfl⟩;have eN:((from':Int)+(ops.length:Int))=(N:Int):=by omega
  have hNl:N<4611686018427387904:=by omega
  have HN:=Lh hN;clear hx hN;go_wp2_with fail;refine(rvid_any id N _ hNl).mono ?_;rintro e w4 ⟨rfl,hb4⟩;have HP4:=Lh (HP.o.over hb4);have HNo:=Lh HP4.o.names;have hB4:=HP4.o.mo.ma.below.size;obtain⟨at9,hat9⟩:∃ z,z=at'++[(⟨id,UInt8.ofNat N⟩:VidM)]:=⟨_,rfl⟩;have HA9e:=Lh hat9;clear hb4 k0 sk i0 i1 si eN hat9;go_upto_region 35 with((at_builtin;(first|refine apD slVidE rfl _ _ rfl w3.heap.size _ _ (dad _ _ _) 1 _ _ _ HNo.o rfl rfl rfl rfl hN1 (by decide) hB4 ?_|refine apD slVidE rfl _ _ rfl w3.heap.size _ _ (drf _) 1 _ _ _ HNo.o rfl rfl rfl rfl hN1 (by decide) hB4 ?_);intro v9 w9 ho9 hg9);(obtain⟨p9,c9,e9,hO9⟩:=vown_more (GOwn.snoc (x:=(⟨id,UInt8.ofNat N⟩:VidM)) ho9) HA9e.o);subst e9;have HO9:=Lh hO9;have HG9:=Lh hg9;clear ho9 hg9 hO9)
  have HP5:=Lh (HP4.o.name HO9.o HG9.o);clear HO9 HG9;have HB5r:=Lh (bvo HB3.o HP5.o.mo.ma.below);have HB50:=Lh (bvo HB1.o HB5r.o);have HF5:=Lh (HF.o.over HB50.o);obtain⟨f0,f1,f2,sf⟩:=HF5.o.c3;obtain⟨wa2,wc2,e2,_,_,_,hcw⟩:=SRow.form (HW.o.over HB50.o);cases e2
  obtain⟨bw,offw,rfl,sbw,hcw2⟩:=hcw.resolve_left (by rw [← HMM.o];omega);have w0c:=hcw2 j t HTx.o;have hB5:=HP5.o.mo.ma.below.size;have HOw:=Lh HP5.o.mo.own;obtain⟨ops9,hops9⟩:∃ y,y=ops++[(⟨3,file,noVid,t⟩:OpM)]:=⟨_,rfl⟩;have HO9e:=Lh hops9;have HAD2:=Lh (adds_next2 HX.o HTx.o HAD.o);rw [HN.o,← hops9,← HA9e.o] at HAD2;clear hcw hcw2 hops9;go_simp;refine wlo 8 fun hcur=>?_;repeat(first|refine lxq ?_|(refine lxl rfl ?_;go_wp2_with (first|(fail));refine⟨iov (by first|exact hcur|exact hcur.alloc hcur.size _),?_⟩))
  refine lxe ?_;clear hcur;go_wp2_with ((at_builtin;(first|refine apD slOp rfl _ _ rfl w3.heap.size _ _ (dad _ _ _) 1 _ _ _ HOw.o rfl rfl rfl rfl hN2 (by decide) hB5 ?_|refine apD slOp rfl _ _ rfl w3.heap.size _ _ (drf _) 1 _ _ _ HOw.o rfl rfl rfl rfl hN2 (by decide) hB5 ?_);intro v10 w10 ho10 hg10);(obtain⟨p10,c10,e10,hO10⟩:=oown_more (GOwn.snoc (x:=(⟨3,file,noVid,t⟩:OpM)) ho10) HO9e.o);subst e10;have HO10:=Lh hO10;have HG10:=Lh hg10;clear ho10 hg10 hO10);go_roundw
  case rel=>exact⟨j+1,ops9,at9,p10,c10,p9,c9,hlt,by go_num,rfl,rfl,HAD2,HP5.o.op HO10.o HG10.o⟩
  simp [intOf];omega
 obtain rfl:m=j:=by omega
 have HAL2:=Lh hal2;clear hal2;have HTL:=Lh (ties_len R ks at');go_wp2;go_loopw [20,24] (fun v20 v24 wq=>LfRel w3 gB gT R ms ks at' ops m p' c' v20 v24 wq) (fun _ v24 _=>m - (intOf v24).toNat)
 case atStart=>exact⟨0,ops,p,c,.inr rfl,by go_num,rfl,Lh (by rw [ties_one,List.append_nil]),HP⟩
 obtain⟨q,ops2,p2,c2,hq,rfl,rfl,HO2,HP2⟩:=hrel;rename World=>wr;have hol3:ops2.length≤ops.length+(q+1):=by rw [HO2.o,List.length_append];have:=HTL.o (q+1);omega
 have HBr:=Lh (bvo HB3.o HP2.o.mo.ma.below)
 by_cases hlt:q+1<m
 rotate_left
 ·
  have HE:Hid (ops2=ops++tiesTo R ks at' m):=by
   show _=_;rcases Nat.eq_zero_or_pos m with h0|h0
   · have hq0:q=0:=(by omega);rw [HO2.o,hq0,ties_one,h0,ties_zero]
   have hqm:q+1=m:=(by omega);rw [HO2.o,hqm]
  have hww:w.heap.size≤w3.heap.size:=by have:=HB.o.size;have:=HB1.o.size;have:=HB3.o.size;omega
  have HOf:=Lh (HP2.o.mo.own.base hww);have HBf:=Lh (bvo HB.o (bvo HB1.o HBr.o));have d1:decide ((q:Int)+1<(m:Int))=false:=decide_eq_false (by omega);go_wp2;go_ret;exact⟨_,rfl,(by rw [← HTX.o,← HPS.o,← HMM.o,← HKS.o,← HKL2.o,← HAD.o];show GOwn _ _ _ _ _ _ (ops++tiesTo R ks at' m);rw [← HE.o];exact HOf.o),HBf.o⟩
 obtain⟨x,hx⟩:=gol (xs:=ks) (i:=q) (by rw [HKn.o];omega);obtain⟨y,hy⟩:=gol (xs:=ks) (i:=q+1) (by rw [HKn.o];exact hlt);obtain⟨u,hu⟩:=gol (xs:=at') (i:=q) (by rw [HAL2.o];omega);obtain⟨v,hv⟩:=gol (xs:=at') (i:=q+1) (by rw [HAL2.o];exact hlt);have k0:=HP2.o.mo.ma.kept.arr.cell (keptV1_get hx);have k1:=HP2.o.mo.ma.kept.arr.cell (keptV1_get hy);have sk:=HP2.o.mo.ma.kept.arr.lt;have HX:=Lh hx;have HYY:=Lh hy;have HU:=Lh hu;have HVV:=Lh hv;have HGr:=Lh (HG1.o.over HBr.o);obtain⟨g0,g1,g2,sg⟩:=HGr.o.c3;have HSr:=Lh (HS1.o.over HBr.o);have hN5:ops2.length+1≤1099511627776:=by omega
 have d1:decide ((q:Int)+1<(m:Int))=true:=decide_eq_true (by omega);clear hu hv;rcases HKI.o q x hx with hx1|⟨i,hx1,hil⟩
 ·
  subst hx1;have HN:=Lh (ties_yes (R:=R) HX.o HYY.o HU.o HVV.o (.inl (by decide)));clear hx hy;go_wp2_with fail;refine wlo 28 fun hcur=>?_;repeat refine lxq ?_
  refine lxe ?_;have HP3:=Lh (HP2.o.over hcur);clear hcur k0 k1 sk g0 g1 g2 sg d1;generalize wr.drew=wd at *;have HNm:=Lh HP3.o.names;obtain⟨an,cn,en,_,_,hcn⟩:=HNm.o.row.at encVid_len;cases en
  obtain⟨bn,offn,rfl,sbn,hcbn⟩:=hcn.resolve_left (by rw [HAL2.o];omega);have n0:wd.cell? ⟨bn,offn+q*3,none⟩=some (.int .u8 u.pid.author.toNat):=(hcbn q u HU.o _ (Below.refl _ _)).2 0 _ rfl;have n1:wd.cell? ⟨bn,offn+q*3+1,none⟩=some (.int .u16 u.pid.seq.toNat):=(hcbn q u HU.o _ (Below.refl _ _)).2 1 _ rfl;have n2:wd.cell? ⟨bn,offn+q*3+2,none⟩=some (.int .u8 u.n.toNat):=(hcbn q u HU.o _ (Below.refl _ _)).2 2 _ rfl;have n3:wd.cell? ⟨bn,offn+(q+1)*3,none⟩=some (.int .u8 v.pid.author.toNat):=(hcbn (q+1) v HVV.o _ (Below.refl _ _)).2 0 _ rfl;have n4:wd.cell? ⟨bn,offn+(q+1)*3+1,none⟩=some (.int .u16 v.pid.seq.toNat):=(hcbn (q+1) v HVV.o _ (Below.refl _ _)).2 1 _ rfl;have n5:wd.cell? ⟨bn,offn+(q+1)*3+2,none⟩=some (.int .u8 v.n.toNat):=(hcbn (q+1) v HVV.o _ (Below.refl _ _)).2 2 _ rfl;have sn:=(hcbn q u HU.o _ (Below.refl _ _)).1;have hqa:q+1<at'.length:=by rw [HAL2.o];exact hlt
  have hB5:=HP3.o.mo.ma.below.size;have HOw:=Lh HP3.o.mo.own;obtain⟨ops9,hops9⟩:∃ z,z=ops2++[(⟨4,u,v,⟨#[]⟩⟩:OpM)]:=⟨_,rfl⟩;have HO9e:=Lh hops9;have HN9:Hid (ops9=ops++tiesTo R ks at' (q+1+1)):=by show _=_;rw [HN.o,← List.append_assoc,← HO2.o];exact hops9
  clear hops9 hcn hcbn;go_wp2_with fail;refine wlo 12 fun hcur=>?_;repeat(first|refine lxq ?_|(refine lxl rfl ?_;go_wp2_with (first|(fail));refine⟨iov (by first|exact hcur|exact hcur.alloc hcur.size _),?_⟩))
  refine lxe ?_;clear hcur;go_wp2_with ((at_builtin;(first|refine apD slOp rfl _ _ rfl w3.heap.size _ _ (dad _ _ _) 1 _ _ _ HOw.o rfl rfl rfl rfl hN5 (by decide) hB5 ?_|refine apD slOp rfl _ _ rfl w3.heap.size _ _ (drf _) 1 _ _ _ HOw.o rfl rfl rfl rfl hN5 (by decide) hB5 ?_);intro v9 w9 ho9 hg9);(obtain⟨p9,c9,e9,hO9⟩:=oown_more (GOwn.snoc (x:=(⟨4,u,v,⟨#[]⟩⟩:OpM)) ho9) HO9e.o);subst e9;have HO9:=Lh hO9;have HG9:=Lh hg9;clear ho9 hg9 hO9);go_roundw
  case rel=>exact⟨q+1,ops9,p9,c9,.inl hlt,by go_num,rfl,HN9,HP3.o.op HO9.o HG9.o⟩
  simp [intOf];omega
 subst hx1;have ei:decide ((i:Int)<0)=false:=decide_eq_false (by omega);rcases HKI.o (q+1) y hy with hy1|⟨i2,hy1,hil2⟩
 ·
  subst hy1;have HN:=Lh (ties_yes (R:=R) HX.o HYY.o HU.o HVV.o (.inr (.inl (by decide))));clear hx hy;go_wp2_with fail;refine wlo 28 fun hcur=>?_;repeat refine lxq ?_
  refine lxe ?_;have HP3:=Lh (HP2.o.over hcur);clear hcur k0 k1 sk g0 g1 g2 sg d1;generalize wr.drew=wd at *;have HNm:=Lh HP3.o.names;obtain⟨an,cn,en,_,_,hcn⟩:=HNm.o.row.at encVid_len;cases en
  obtain⟨bn,offn,rfl,sbn,hcbn⟩:=hcn.resolve_left (by rw [HAL2.o];omega);have n0:wd.cell? ⟨bn,offn+q*3,none⟩=some (.int .u8 u.pid.author.toNat):=(hcbn q u HU.o _ (Below.refl _ _)).2 0 _ rfl;have n1:wd.cell? ⟨bn,offn+q*3+1,none⟩=some (.int .u16 u.pid.seq.toNat):=(hcbn q u HU.o _ (Below.refl _ _)).2 1 _ rfl;have n2:wd.cell? ⟨bn,offn+q*3+2,none⟩=some (.int .u8 u.n.toNat):=(hcbn q u HU.o _ (Below.refl _ _)).2 2 _ rfl;have n3:wd.cell? ⟨bn,offn+(q+1)*3,none⟩=some (.int .u8 v.pid.author.toNat):=(hcbn (q+1) v HVV.o _ (Below.refl _ _)).2 0 _ rfl;have n4:wd.cell? ⟨bn,offn+(q+1)*3+1,none⟩=some (.int .u16 v.pid.seq.toNat):=(hcbn (q+1) v HVV.o _ (Below.refl _ _)).2 1 _ rfl;have n5:wd.cell? ⟨bn,offn+(q+1)*3+2,none⟩=some (.int .u8 v.n.toNat):=(hcbn (q+1) v HVV.o _ (Below.refl _ _)).2 2 _ rfl;have sn:=(hcbn q u HU.o _ (Below.refl _ _)).1;have hqa:q+1<at'.length:=by rw [HAL2.o];exact hlt
  have hB5:=HP3.o.mo.ma.below.size;have HOw:=Lh HP3.o.mo.own;obtain⟨ops9,hops9⟩:∃ z,z=ops2++[(⟨4,u,v,⟨#[]⟩⟩:OpM)]:=⟨_,rfl⟩;have HO9e:=Lh hops9;have HN9:Hid (ops9=ops++tiesTo R ks at' (q+1+1)):=by show _=_;rw [HN.o,← List.append_assoc,← HO2.o];exact hops9
  clear hops9 hcn hcbn;go_wp2_with fail;refine wlo 12 fun hcur=>?_;repeat(first|refine lxq ?_|(refine lxl rfl ?_;go_wp2_with (first|(fail));refine⟨iov (by first|exact hcur|exact hcur.alloc hcur.size _),?_⟩))
  refine lxe ?_;clear hcur;go_wp2_with ((at_builtin;(first|refine apD slOp rfl _ _ rfl w3.heap.size _ _ (dad _ _ _) 1 _ _ _ HOw.o rfl rfl rfl rfl hN5 (by decide) hB5 ?_|refine apD slOp rfl _ _ rfl w3.heap.size _ _ (drf _) 1 _ _ _ HOw.o rfl rfl rfl rfl hN5 (by decide) hB5 ?_);intro v9 w9 ho9 hg9);(obtain⟨p9,c9,e9,hO9⟩:=oown_more (GOwn.snoc (x:=(⟨4,u,v,⟨#[]⟩⟩:OpM)) ho9) HO9e.o);subst e9;have HO9:=Lh hO9;have HG9:=Lh hg9;clear ho9 hg9 hO9);go_roundw
  case rel=>exact⟨q+1,ops9,p9,c9,.inl hlt,by go_num,rfl,HN9,HP3.o.op HO9.o HG9.o⟩
  simp [intOf];omega
 subst hy1;have ei2:decide ((i2:Int)<0)=false:=decide_eq_false (by omega);clear hx hy;cases hb:befB R i i2 with
 | true =>
  have HBV:=Lh hb;have HN:=Lh (ties_no (R:=R) (at':=at') HX.o HYY.o (Int.natCast_nonneg i) (Int.natCast_nonneg i2) hb);clear hb;go_wp2_with fail;refine wlo 28 fun hcur=>?_;repeat(first|refine lxq ?_|(refine lxl rfl ?_;go_wp2_with (first|(go_at_call 104;(with_reducible refine(r8bef_any l.length _ R i i2 _ ((HSr.o.over hcur).rel)).mono ?_);rintro e w' ⟨rfl,hb⟩;rw [HBV.o];have hcur:=bvo hcur hb));refine⟨iov hcur,?_⟩))
  refine lxe ?_;have HP3:=Lh (HP2.o.over hcur);clear hcur k0 k1 sk g0 g1 g2 sg d1;go_wp2;go_roundw
  case rel=>exact⟨q+1,ops2,p2,c2,.inl hlt,by go_num,rfl,Lh (by rw [HN.o];exact HO2.o),HP3⟩
  simp [intOf];omega
 | false =>
  have HBV:=Lh hb;have HN:=Lh (ties_yes (R:=R) HX.o HYY.o HU.o HVV.o (.inr (.inr hb)));clear hb;go_wp2_with fail;refine wlo 28 fun hcur=>?_;repeat(first|refine lxq ?_|(refine lxl rfl ?_;go_wp2_with (first|(go_at_call 104;(with_reducible refine(r8bef_any l.length _ R i i2 _ ((HSr.o.over hcur).rel)).mono ?_);rintro e w' ⟨rfl,hb⟩;rw [HBV.o];have hcur:=bvo hcur hb));refine⟨iov hcur,?_⟩))
  refine lxe ?_;have HP3:=Lh (HP2.o.over hcur);clear hcur k0 k1 sk g0 g1 g2 sg d1;rename World=>wd;have HNm:=Lh HP3.o.names;obtain⟨an,cn,en,_,_,hcn⟩:=HNm.o.row.at encVid_len;cases en
  obtain⟨bn,offn,rfl,sbn,hcbn⟩:=hcn.resolve_left (by rw [HAL2.o];omega);have n0:wd.cell? ⟨bn,offn+q*3,none⟩=some (.int .u8 u.pid.author.toNat):=(hcbn q u HU.o _ (Below.refl _ _)).2 0 _ rfl;have n1:wd.cell? ⟨bn,offn+q*3+1,none⟩=some (.int .u16 u.pid.seq.toNat):=(hcbn q u HU.o _ (Below.refl _ _)).2 1 _ rfl;have n2:wd.cell? ⟨bn,offn+q*3+2,none⟩=some (.int .u8 u.n.toNat):=(hcbn q u HU.o _ (Below.refl _ _)).2 2 _ rfl;have n3:wd.cell? ⟨bn,offn+(q+1)*3,none⟩=some (.int .u8 v.pid.author.toNat):=(hcbn (q+1) v HVV.o _ (Below.refl _ _)).2 0 _ rfl;have n4:wd.cell? ⟨bn,offn+(q+1)*3+1,none⟩=some (.int .u16 v.pid.seq.toNat):=(hcbn (q+1) v HVV.o _ (Below.refl _ _)).2 1 _ rfl;have n5:wd.cell? ⟨bn,offn+(q+1)*3+2,none⟩=some (.int .u8 v.n.toNat):=(hcbn (q+1) v HVV.o _ (Below.refl _ _)).2 2 _ rfl;have sn:=(hcbn q u HU.o _ (Below.refl _ _)).1;have hqa:q+1<at'.length:=by rw [HAL2.o];exact hlt
  have hB5:=HP3.o.mo.ma.below.size;have HOw:=Lh HP3.o.mo.own;obtain⟨ops9,hops9⟩:∃ z,z=ops2++[(⟨4,u,v,⟨#[]⟩⟩:OpM)]:=⟨_,rfl⟩;have HO9e:=Lh hops9;have HN9:Hid (ops9=ops++tiesTo R ks at' (q+1+1)):=by show _=_;rw [HN.o,← List.append_assoc,← HO2.o];exact hops9
  clear hops9 hcn hcbn;go_wp2_with fail;refine wlo 12 fun hcur=>?_;repeat(first|refine lxq ?_|(refine lxl rfl ?_;go_wp2_with (first|(fail));refine⟨iov (by first|exact hcur|exact hcur.alloc hcur.size _),?_⟩))
  refine lxe ?_;clear hcur;go_wp2_with ((at_builtin;(first|refine apD slOp rfl _ _ rfl w3.heap.size _ _ (dad _ _ _) 1 _ _ _ HOw.o rfl rfl rfl rfl hN5 (by decide) hB5 ?_|refine apD slOp rfl _ _ rfl w3.heap.size _ _ (drf _) 1 _ _ _ HOw.o rfl rfl rfl rfl hN5 (by decide) hB5 ?_);intro v9 w9 ho9 hg9);(obtain⟨p9,c9,e9,hO9⟩:=oown_more (GOwn.snoc (x:=(⟨4,u,v,⟨#[]⟩⟩:OpM)) ho9) HO9e.o);subst e9;have HO9:=Lh hO9;have HG9:=Lh hg9;clear ho9 hg9 hO9);go_roundw
  case rel=>exact⟨q+1,ops9,p9,c9,.inl hlt,by go_num,rfl,HN9,HP3.o.op HO9.o HG9.o⟩
  simp [intOf];omega
end Go.Proofs.YtjccmcgglfncdaaGreatDoor
