/- What is proved: PlanSays, for every input; of the listed tables the walk needs the powers of ten. -/
import Derived.Test.YtjccmcgglfncdaaGreatDoorPSomeB
import Derived.Test.YtjccmcgglfncdaaGreatDoorPPlF
set_option linter.unusedVariables false
set_option linter.unusedSimpArgs false
set_option maxRecDepth 100000
set_option maxHeartbeats 40000000
namespace Go.Proofs.YtjccmcgglfncdaaGreatDoor
open Go Go.RowKit
theorem cmpVid_lt1{a b:VidM}(h:packVid a<packVid b):cmpVid a b = -1:=cmpN_lt h
theorem cmpVid_same1(a:VidM):cmpVid a a=0:=cmpN_eq rfl
theorem cmpVid_nlt1{a b:VidM}(h:¬ packVid a<packVid b):decide (cmpVid a b<0)=false:=by rw [decide_eq_false_iff_not];unfold cmpVid;rw [cmpN_neg];exact h
attribute [local irreducible] cmpVid
theorem lcmp_any(x:VertM)(v:VidM)(w:World):Calls Tryz.prog 89 #[vertV x,vidV v] w fun e w'=>e=.returned (.int .i64 (cmpVid x.id v))∧Be w w':=by have HA:=Lh ((anw w (cX x) 101).alloc (.cells (cV v) 74));have HC:=Lh (an2 w (.cells (cX x) 101) (cV v) 74);have HB:=Lh ((bnew (w:=w) (.cells (cX x) 101)).alloc (by simp) (.cells (cV v) 74));unfold vertV vidV;go_enter Tryz.func89,Tryz.ntmps89;go_upto_region 1 with fail;generalize (w.alloc (.cells (cX x) 101)).alloc (.cells (cV v) 74)=w0 at *;obtain⟨c0,c1,c2,c3,c4,c5,c6,c7,c8,sc⟩:=HA.o.c9;obtain⟨d0,d1,d2,sd⟩:=HC.o.c3;go_wp2_with fail;refine(vcmpG x.id v _).mono ?_;rintro e w1 ⟨rfl,hg⟩;have HB1:=Lh (bvo HB.o hg.below);clear hg;go_wp2;go_ret;exact⟨rfl,HB1.o⟩
theorem key_lt{l:List VertM}(hs:Rises vertKey l){a b:Nat}{x y:VertM}(ha:l[a]? = some x)(hb:l[b]? = some y)(h:packVid x.id<packVid y.id):a<b:=by
 obtain⟨h1,e1⟩:=List.getElem?_eq_some_iff.1 ha;obtain⟨h2,e2⟩:=List.getElem?_eq_some_iff.1 hb;rcases Nat.lt_trichotomy a b with q|q|q
 · exact q
 · subst q;rw [e1] at e2;subst e2;omega
 have:=List.pairwise_iff_getElem.1 hs b a h2 h1 q;rw [e1,e2] at this;unfold vertKey at this;omega
theorem key_ge{l:List VertM}(hs:Rises vertKey l){a b:Nat}{x y:VertM}(ha:l[a]? = some x)(hb:l[b]? = some y)(h:¬ packVid x.id<packVid y.id):b≤a:=by obtain⟨h1,e1⟩:=List.getElem?_eq_some_iff.1 ha;obtain⟨h2,e2⟩:=List.getElem?_eq_some_iff.1 hb;refine Nat.le_of_not_lt fun q=>h ?_;have:=List.pairwise_iff_getElem.1 hs a b h1 h2 q;rw [e1,e2] at this;exact this
def BvRel(w0:World)(k0 n:Nat)(iv jv:Value)(wr:World):Prop:=∃ i j:Nat,iv=.int .i64 i∧jv=.int .i64 j∧i≤k0∧k0≤j∧j≤n∧Hid (Be w0 wr)
theorem bsV_any(lv:Value)(l:List VertM)(v:VidM)(w:World)(hv:GRow encVert 9 w lv l)(hs:Rises vertKey l)(hm:v∈l.map (·.id))(hn:l.length≤1000000) :
  Calls Tryz.prog 88 #[lv,vidV v,.func (.func 89) #[] #[]] w fun e w'=>e=.returned (.tuple #[.int .i64 (placeM l v:Int),.bool true])∧Be w w':=by
 obtain⟨a,cap,rfl,h1,h2,hc⟩:=hv.at encVert_len;unfold maxLen at h2;have HC:=Lh hc;have HS:=Lh hs;obtain⟨y,hy,hyv⟩:=place_get hm;obtain⟨k0,hk0⟩:∃ k0,placeM l v=k0:=⟨_,rfl⟩;rw [hk0] at hy ⊢;have hkl:=(List.getElem?_eq_some_iff.1 hy).1;have HY:=Lh hy;have HYV:=Lh hyv;have HF:=Lh (anw w (cV v) 74);have HB:=Lh (bnew (w:=w) (.cells (cV v) 74));clear hv hc hs hm hy hyv hk0;unfold vidV;go_enter Tryz.func88,Tryz.ntmps88;go_upto_region 1 with fail;generalize w.alloc (.cells (cV v) 74)=w0 at *;go_wp2;go_loopw [9,10] (fun v9 v10 wr=>BvRel w0 k0 l.length v9 v10 wr) (fun i j _=>(intOf j).toNat - (intOf i).toNat)
 case atStart=>exact⟨0,l.length,rfl,rfl,by omega,by omega,Nat.le_refl _,Below.refl _ _⟩
 obtain⟨i,j,rfl,rfl,hi,hj,hjl,hbl⟩:=hrel;have HBr:=Lh (bvo HB.o hbl.o);have HFr:=Lh (HF.o.over hbl.o);obtain⟨f0,f1,f2,sf⟩:=HFr.o.c3
 by_cases hlt:i<j
 rotate_left
 ·
  obtain rfl:k0=i:=by omega
  obtain rfl:j=k0:=by omega
  obtain⟨b,off,rfl,sb,hcb⟩:=HC.o.resolve_left (by omega);have HRx:=Lh (hcb j y HY.o wr HBr.o);obtain⟨x0,x1,x2,x3,x4,x5,x6,x7,x8,sx⟩:=rc9 HRx.o;have HE:Hid (cmpVid y.id v=0):=by show _=_;rw [HYV.o];exact cmpVid_same1 v
  have d1:decide ((j:Int)<(l.length:Int))=true:=by simp;omega
  have d2:decide (j<l.length)=true:=by simp [hkl]
  clear hcb;go_wp2_with fail;refine wlo 16 fun hcur=>?_;repeat(first|refine lxq ?_|(refine lxl rfl ?_;go_wp2_with (first|(go_at_call 89;(with_reducible refine(lcmp_any y v _).mono ?_);rintro e w' ⟨rfl,hb⟩;rw [HE.o];have hcur:=bvo hcur hb));refine⟨iov hcur,?_⟩))
  refine lxe ?_;have HB4:=Lh (bvo hbl.o hcur);clear hcur;go_wp2;go_ret2;exact⟨rfl,bvo HB.o HB4.o⟩
 obtain⟨q,hq⟩:∃ q,(i+j) / 2=q:=⟨_,rfl⟩;have eq':((i:Int)+(j:Int)) / 2=(q:Int):=by omega
 have hiq:i≤q:=by omega
 have hqj:q<j:=by omega
 obtain⟨b,off,rfl,sb,hcb⟩:=HC.o.resolve_left (by omega);obtain⟨x,hx⟩:=gol (xs:=l) (i:=q) (by omega);have HX:=Lh hx;have HRx:=Lh (hcb q x hx wr HBr.o);obtain⟨x0,x1,x2,x3,x4,x5,x6,x7,x8,sx⟩:=rc9 HRx.o;clear hcb hx hq
 by_cases hp:packVid x.id<packVid v
 ·
  have HE:=Lh (cmpVid_lt1 hp);have hqk:q<k0:=key_lt HS.o HX.o HY.o (by rw [HYV.o];exact hp);clear hp;go_wp2_with fail;refine wlo 8 fun hcur=>?_;repeat(first|refine lxq ?_|(refine lxl rfl ?_;go_wp2_with (first|(go_at_call 89;(with_reducible refine(lcmp_any x v _).mono ?_);rintro e w' ⟨rfl,hb⟩;rw [HE.o];have hcur:=bvo hcur hb));refine⟨iov hcur,?_⟩))
  refine lxe ?_;have HB4:=Lh (bvo hbl.o hcur);clear hcur;go_wp2;go_roundw
  case rel=>exact⟨q+1,j,by go_num,rfl,hqk,hj,hjl,HB4⟩
  simp [intOf];omega
 have HE:=Lh (cmpVid_nlt1 hp);have hqk:k0≤q:=key_ge HS.o HX.o HY.o (by rw [HYV.o];exact hp);have hnn:=HE.o;clear hp;go_wp2_with fail;refine wlo 8 fun hcur=>?_;repeat(first|refine lxq ?_|(refine lxl rfl ?_;go_wp2_with (first|(go_at_call 89;(with_reducible refine(lcmp_any x v _).mono ?_);rintro e w' ⟨rfl,hb⟩;have hcur:=bvo hcur hb));refine⟨iov hcur,?_⟩))
 refine lxe ?_;have HB4:=Lh (bvo hbl.o hcur);clear hcur;go_wp2;go_roundw
 case rel=>exact⟨i,q,rfl,rfl,hi,hqk,by omega,HB4⟩
 simp [intOf];omega
theorem lat_any(v:VidM)(c s:Nat)(lp:Option Addr)(lc:Nat)(u1 u2:Value)(l:List VertM)(w:World)(hC:Arr w c [.pointer (some ⟨s,0,none⟩)])(hS:Arr w s [.slice lp l.length lc,u1,u2])(hv:GRow encVert 9 w (.slice lp l.length lc) l)
  (hs:Rises vertKey l) (hm:v∈l.map (·.id)) (hn:l.length≤1000000) :
  Calls Tryz.prog 87 #[vidV v,.pointer (some ⟨c,0,none⟩)] w fun e w'=>e=.returned (.int .i64 (placeM l v:Int))∧Be w w':=by
 have HF:=Lh (anw w (cV v) 74);have HB:=Lh (bnew (w:=w) (.cells (cV v) 74));have HC:=Lh (hC.alloc (.cells (cV v) 74));have HS:=Lh (hS.alloc (.cells (cV v) 74));have HV:=Lh (hv.over (bnew (w:=w) (.cells (cV v) 74)));have HR:=Lh (And.intro hs hm);clear hC hS hv hs hm;unfold vidV;go_enter Tryz.func87,Tryz.ntmps87;go_upto_region 1 with fail;generalize w.alloc (.cells (cV v) 74)=w0 at *;obtain⟨f0,f1,f2,sf⟩:=HF.o.c3;obtain⟨c0,sc⟩:=HC.o.c1;obtain⟨s0,ss⟩:=HS.o.c1;refine wlo 11 fun hcur=>?_;repeat(first|refine lxq ?_|(refine lxl rfl ?_;go_wp2_with (first|(go_at_call 88;(with_reducible refine(bsV_any _ l v _ (HV.o.over hcur) HR.o.1 HR.o.2 hn).mono ?_);rintro e w' ⟨rfl,hb⟩;have hcur:=bvo hcur hb));refine⟨iov hcur,?_⟩))
 refine lxe ?_;have HB4:=Lh (bvo HB.o hcur);clear hcur;go_wp2;go_ret;exact⟨rfl,HB4.o⟩
end Go.Proofs.YtjccmcgglfncdaaGreatDoor
