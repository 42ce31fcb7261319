/- What is proved: PlanGives and MergeKeeps, for every input; of the listed tables the walk needs the powers of ten. -/
import Derived.Test.YtjccmcgglfncdaaGreatDoorBNsD
import Derived.Test.YtjccmcgglfncdaaGreatDoorBTreeD
import Derived.Test.YtjccmcgglfncdaaGreatDoorBPlC
set_option linter.unusedVariables false
set_option linter.unusedSimpArgs false
set_option maxRecDepth 100000
set_option maxHeartbeats 40000000
namespace Go.Proofs.YtjccmcgglfncdaaGreatDoor
open Go Go.RowKit
section
attribute [local irreducible] allM killsTo edTo newTo planM killsN klTo linesM relM idsM edgesM fileOps linesOps namesM
end
section
attribute [local irreducible] allM planM linesM relM idsM edgesM planR goodQ goodR depsM vecM nextF recI
end
section
def same3(id id':PidM)(d d':List PidM)(l m:List OpM):Bool:=decide (id=id'∧d=d'∧l=m)
theorem same3f{id id':PidM}{d d':List PidM}{l m:List OpM}(h:¬ (id=id'∧d=d'∧l=m)):same3 id id' d d' l m=false:=decide_eq_false h
theorem same3t{id id':PidM}{d d':List PidM}{l m:List OpM}(h:id=id'∧d=d'∧l=m):same3 id id' d d' l m=true:=decide_eq_true h
attribute [local irreducible] same3
theorem rpsame_any(id id':PidM)(dv ov dv' ov':Value)(d d':List PidM)(l m:List OpM)(w:World)(hd:GRow encPid 2 w dv d)(hv:GRow encOp 8 w ov l)(hd':GRow encPid 2 w dv' d')(hu:GRow encOp 8 w ov' m) :
  Calls Tryz.prog 18 #[patV id dv ov,patV id' dv' ov'] w fun e w'=>e=.returned (.bool (same3 id id' d d' l m))∧Be w w':=by
 have HD:=Lh hd;have HD':=Lh hd';have HV:=Lh hv;have HU:=Lh hu;obtain⟨a,cap,rfl,h1,h2,_⟩:=hv.at encOp_len;obtain⟨a',cap',rfl,h1',h2',_⟩:=hu.at encOp_len;obtain⟨ad,cd,rfl,g1,g2,_⟩:=hd.at encPid_len;obtain⟨ad',cd',rfl,g1',g2',_⟩:=hd'.at encPid_len;unfold maxLen at h2 h2' g2 g2';clear hd hd' hv hu;have HP:=Lh ((anw w #[.int .u8 id.author.toNat,.int .u16 id.seq.toNat,.slice ad d.length cd,.slice a l.length cap] 44).alloc (.cells #[.int .u8 id'.author.toNat,.int .u16 id'.seq.toNat,.slice ad' d'.length cd',.slice a' m.length cap'] 44));have HQ:=Lh (an2 w (.cells #[.int .u8 id.author.toNat,.int .u16 id.seq.toNat,.slice ad d.length cd,.slice a l.length cap] 44) #[.int .u8 id'.author.toNat,.int .u16 id'.seq.toNat,.slice ad' d'.length cd',.slice a' m.length cap'] 44);have HB:=Lh ((bnew (w:=w) (.cells #[.int .u8 id.author.toNat,.int .u16 id.seq.toNat,.slice ad d.length cd,.slice a l.length cap] 44)).alloc (by simp) (.cells #[.int .u8 id'.author.toNat,.int .u16 id'.seq.toNat,.slice ad' d'.length cd',.slice a' m.length cap'] 44));unfold patV;go_enter Tryz.func18,Tryz.ntmps18;go_upto_region 1 with fail;generalize (w.alloc (.cells #[.int .u8 id.author.toNat,.int .u16 id.seq.toNat,.slice ad d.length cd,.slice a l.length cap] 44)).alloc (.cells #[.int .u8 id'.author.toNat,.int .u16 id'.seq.toNat,.slice ad' d'.length cd',.slice a' m.length cap'] 44)=w0 at *;obtain⟨p0,p1,p2,p3,sp⟩:=HP.o.c4;obtain⟨q0,q1,q2,q3,sq⟩:=HQ.o.c4;have gp:=fun p q xs ys w=>guard_pid .neq p q xs ys w;have gd:=fun p q xs ys w=>guard_op .neq p q xs ys w
 by_cases hid:id=id'
 rotate_left
 · have hne:=neq_pid id id' true (by simp [hid]);unfold pidV at hne;have HN:Hid (same3 id id' d d' l m=false):=same3f (fun h=>hid h.1);clear hid;go_wp2;go_ret;exact⟨rvb HN.o,HB.o⟩
 have hne:=neq_pid id id' false (by simp [hid]);unfold pidV at hne;have HId:=Lh hid;clear hid;have HSm:=Lh (rsamePid_any _ _ d d' w0 (HD.o.over HB.o) (HD'.out.over HB.o));go_wp2_with fail;refine HSm.o.mono ?_;rintro e w1 ⟨rfl,hb1⟩;have HP1:=Lh (HP.o.over hb1);have HQ1:=Lh (HQ.o.over hb1);have HB1:=Lh (bvo HB.o hb1);have HV1:=Lh (HV.o.over HB1.o);have HU1:=Lh (HU.o.over HB1.o);clear hb1 hne p0 p1 p2 p3 q0 q1 q2 q3 sp sq HP HQ HSm;obtain⟨p0,p1,p2,p3,sp⟩:=HP1.o.c4;obtain⟨q0,q1,q2,q3,sq⟩:=HQ1.o.c4
 by_cases hdd:d=d'
 rotate_left
 · have HN:Hid (same3 id id' d d' l m=false):=same3f (fun h=>hdd h.2.1);rw [decide_eq_false hdd];clear hdd;go_wp2;go_ret;exact⟨rvb HN.o,HB1.o⟩
 rw [decide_eq_true hdd];have HDd:=Lh hdd;clear hdd
 by_cases hlen:l.length=m.length
 rotate_left
 ·
  have HN:Hid (same3 id id' d d' l m=false):=same3f (fun h=>hlen (by rw [h.2.2]));have hq:((l.length:Int) != (m.length:Int))=true:=by simp;omega
  clear hlen;go_wp2;go_ret;exact⟨rvb HN.o,HB1.o⟩
 have HL:=Lh hlen;have hq:((l.length:Int) != (m.length:Int))=false:=by simp [hlen]
 clear hlen;obtain⟨_,_,e1,_,_,hc⟩:=HV1.o.at encOp_len;cases e1
 obtain⟨_,_,e1,_,_,hc'⟩:=HU1.o.at encOp_len;cases e1
 have HC:=Lh hc;have HC':=Lh hc';clear hc hc';go_wp2_with fail;clear p0 p1 p2 p3 q0 q1 q2 q3 sp sq;go_loopw [5] (fun i wr=>∃ k:Nat,k≤l.length∧i=.int .i64 k∧Hid (l.take k=m.take k)∧Be w1 wr) (fun i _=>l.length - (intOf i).toNat)
 case atStart=>exact⟨0,by omega,rfl,rfl,Below.refl _ _⟩
 obtain⟨k,hk,rfl,HK,hbl⟩:=hrel;have HPr:=Lh (HP1.o.over hbl);have HQr:=Lh (HQ1.o.over hbl);have p3:=HPr.o.k 3 rfl;have q3:=HQr.o.k 3 rfl;have sp:=HPr.o.lt;have sq:=HQr.o.lt
 by_cases hlt:k<l.length
 rotate_left
 ·
  obtain rfl:k=l.length:=by omega
  have HN:Hid (same3 id id' d d' l m=true):=same3t ⟨HId.o,HDd.o,take_all HL.o HK.o⟩;go_wp2;go_ret;exact⟨rvb HN.o,bvo HB1.o hbl⟩
 obtain⟨bl,ol,rfl,sl,hcl⟩:=HC.o.resolve_left (by omega);obtain⟨bm,om,rfl,sm,hcm⟩:=HC'.out.resolve_left (by have:=HL.o;omega);obtain⟨x,hx⟩:=gol hlt;obtain⟨y,hy⟩:=gol (xs:=m) (i:=k) (by have:=HL.o;omega);have hkm:k<m.length:=by have:=HL.o;omega
 have x0:wr.cell? ⟨bl,ol+k*8,none⟩=some (.int .u8 x.kind.toNat):=((hcl k x hx wr hbl)).2 0 _ rfl;have x1:wr.cell? ⟨bl,ol+k*8+1,none⟩=some (.int .u8 x.at'.pid.author.toNat):=((hcl k x hx wr hbl)).2 1 _ rfl;have x2:wr.cell? ⟨bl,ol+k*8+2,none⟩=some (.int .u16 x.at'.pid.seq.toNat):=((hcl k x hx wr hbl)).2 2 _ rfl;have x3:wr.cell? ⟨bl,ol+k*8+3,none⟩=some (.int .u8 x.at'.n.toNat):=((hcl k x hx wr hbl)).2 3 _ rfl;have x4:wr.cell? ⟨bl,ol+k*8+4,none⟩=some (.int .u8 x.to.pid.author.toNat):=((hcl k x hx wr hbl)).2 4 _ rfl;have x5:wr.cell? ⟨bl,ol+k*8+5,none⟩=some (.int .u16 x.to.pid.seq.toNat):=((hcl k x hx wr hbl)).2 5 _ rfl;have x6:wr.cell? ⟨bl,ol+k*8+6,none⟩=some (.int .u8 x.to.n.toNat):=((hcl k x hx wr hbl)).2 6 _ rfl;have x7:wr.cell? ⟨bl,ol+k*8+7,none⟩=some (.string x.text):=((hcl k x hx wr hbl)).2 7 _ rfl;have y0:wr.cell? ⟨bm,om+k*8,none⟩=some (.int .u8 y.kind.toNat):=((hcm k y hy wr hbl)).2 0 _ rfl;have y1:wr.cell? ⟨bm,om+k*8+1,none⟩=some (.int .u8 y.at'.pid.author.toNat):=((hcm k y hy wr hbl)).2 1 _ rfl;have y2:wr.cell? ⟨bm,om+k*8+2,none⟩=some (.int .u16 y.at'.pid.seq.toNat):=((hcm k y hy wr hbl)).2 2 _ rfl;have y3:wr.cell? ⟨bm,om+k*8+3,none⟩=some (.int .u8 y.at'.n.toNat):=((hcm k y hy wr hbl)).2 3 _ rfl;have y4:wr.cell? ⟨bm,om+k*8+4,none⟩=some (.int .u8 y.to.pid.author.toNat):=((hcm k y hy wr hbl)).2 4 _ rfl;have y5:wr.cell? ⟨bm,om+k*8+5,none⟩=some (.int .u16 y.to.pid.seq.toNat):=((hcm k y hy wr hbl)).2 5 _ rfl;have y6:wr.cell? ⟨bm,om+k*8+6,none⟩=some (.int .u8 y.to.n.toNat):=((hcm k y hy wr hbl)).2 6 _ rfl;have y7:wr.cell? ⟨bm,om+k*8+7,none⟩=some (.string y.text):=((hcm k y hy wr hbl)).2 7 _ rfl;have sX:=(hcl k x hx wr hbl).1;have sY:=(hcm k y hy wr hbl).1;have HX:=Lh hx;have HY:=Lh hy;clear hcl hcm hx hy
 by_cases hxy:x=y
 ·
  have hne:=neq_op x y false (by simp [hxy]);unfold opV at hne;have HK2:Hid (l.take (k+1)=m.take (k+1)):=by show _=_;rw [tsg HX.o,tsg HY.o,HK.o,hxy]
  clear hxy;go_wp2_with fail;refine wlo 11 fun hcur=>?_;repeat refine lxq ?_
  refine lxe ?_;go_wp2;go_roundw
  case rel=>exact⟨k+1,hlt,by go_num,HK2,hbl.drew⟩
  simp [intOf];omega
 have hne:=neq_op x y true (by simp [hxy]);unfold opV at hne;have HN:Hid (same3 id id' d d' l m=false):=same3f (fun h=>take_ne HX.o HY.o hxy h.2.2);clear hxy;go_wp2_with fail;refine wlo 11 fun hcur=>?_;repeat refine lxq ?_
 refine lxe ?_;go_wp2;go_ret;exact⟨rvb HN.o,bvo HB1.o hbl.drew⟩
end
def wk28T:List FileM:=[⟨⟨#[97]⟩,[],[⟨#[120]⟩]⟩]
def wk28Id:PidM:=⟨1,1⟩
def wk28Ops:List OpM:=[⟨1,noVid,noVid,⟨#[]⟩⟩,⟨2,⟨wk28Id,0⟩,noVid,⟨#[97]⟩⟩,⟨3,⟨wk28Id,0⟩,noVid,⟨#[120]⟩⟩]
theorem wk28_next:nextF (vecM []) 1=wk28Id:=by unfold nextF;rw [if_pos ⟨by decide,by decide⟩];rfl
theorem wk28_alive:aliveX [] []=[]:=by unfold aliveX;rfl
theorem wk28_firm:firmX [] []=[]:=by unfold firmX;rfl
theorem wk28_lines(f:VidM)(id:PidM)(c:Nat)(x:ByteArray):linesOps [] [] f id c [x]=[⟨3,f,noVid,x⟩]:=by
 unfold linesOps;rw [wk28_alive,wk28_firm];have hE:∀(k:List Int) (a:List VidM),(List.range 1).flatMap (edgesE [] k a)=[]:=by intro k a;show edgesE [] k a 0++[]=[];unfold edgesE;rw [if_neg (fun h=>absurd h.1 (by decide))];rfl
 show _++(List.range 1).flatMap (edgesE [] _ _)=_;rw [hE];have hp:pairs (List.map (textAt []) []) [x]=[]:=by simp [pairs,pairsF]
 rw [hp];simp [keptTo,killsE,addsTo,stepA]
theorem wk28_all:allM []=[]:=by rfl
theorem wk28_plan:planM [] wk28T wk28Id=wk28Ops:=by
 have h:newTo [] wk28T wk28Id 1=newStep (allM []) wk28Id (newTo [] wk28T wk28Id 0) ⟨⟨#[97]⟩,[],[⟨#[120]⟩]⟩:=newTo_succ rfl;have h0:newTo [] wk28T wk28Id 0=[]:=by show edTo [] wk28T wk28Id (allM []).length=[];rw [wk28_all];show killsTo [] wk28T (allM []).length=[];rw [wk28_all];rfl
 show newTo [] wk28T wk28Id 1=_;rw [h,h0,wk28_all];unfold newStep fileOps;rw [if_neg (by decide),wk28_lines];rfl
theorem wk28_good:goodQ wk28Id (depsM wk28Id wk28Ops) wk28Ops=true:=by decide +kernel
theorem wk28_tree:treeGood wk28T=true:=by decide +kernel
theorem wk28_R:planR [] wk28T wk28Id=(wk28Ops,0):=by unfold planR;rw [if_pos wk28_tree,wk28_plan];rfl
def encS28(x:ByteArray):List Value:=[.string x]
def wk28H(b:Nat):List (FileM × Value × Value):=[(⟨⟨#[97]⟩,[],[⟨#[120]⟩]⟩,.slice none 0 0,.slice (some ⟨b,0,none⟩) 1 1)]
theorem wk28_srow(W:World):SRow (W.alloc (.cells #[.string ⟨#[120]⟩] 9)) (.slice (some ⟨W.heap.size,0,none⟩) 1 1) [⟨#[120]⟩]:=
 (show GOwn encS28 1 9 (W.alloc (.cells #[.string ⟨#[120]⟩] 9)) 0 (.slice (some ⟨W.heap.size,0,none⟩) 1 1) [⟨#[120]⟩] from own_lit W 9 [(⟨#[120]⟩:ByteArray)] 0 rfl (by decide) (Nat.zero_le _)).row
theorem wk28_row(W:World)(b:Nat):GRow encF 3 (W.alloc (.cells #[.string ⟨#[97]⟩,.slice none 0 0,.slice (some ⟨b,0,none⟩) 1 1] 71)) (.slice (some ⟨W.heap.size,0,none⟩) 1 1) (wk28H b):=
 (show GOwn encF 3 71 (W.alloc (.cells #[.string ⟨#[97]⟩,.slice none 0 0,.slice (some ⟨b,0,none⟩) 1 1] 71)) 0 (.slice (some ⟨W.heap.size,0,none⟩) 1 1) (wk28H b) from own_lit W 71 (wk28H b) 0 rfl (by show 1≤maxLen;decide) (Nat.zero_le _)).row
theorem wk28_frow(W:World):FRow ((W.alloc (.cells #[.string ⟨#[120]⟩] 9)).alloc (.cells #[.string ⟨#[97]⟩,.slice none 0 0,.slice (some ⟨W.heap.size,0,none⟩) 1 1] 71)) (.slice (some ⟨W.heap.size+1,0,none⟩) 1 1) wk28T:=by
 refine⟨wk28H W.heap.size,rfl,?_,?_⟩
 ·
  have h:=wk28_row (W.alloc (.cells #[.string ⟨#[120]⟩] 9)) W.heap.size;have s:(W.alloc (.cells #[.string ⟨#[120]⟩] 9)).heap.size=W.heap.size+1:=by simp
  rw [s] at h;exact h
 intro x hx;have e:x=(⟨⟨#[97]⟩,[],[⟨#[120]⟩]⟩,.slice none 0 0,.slice (some ⟨W.heap.size,0,none⟩) 1 1):=by simpa [wk28H] using hx
 subst e;exact⟨srow_nil _,(wk28_srow W).over (bnew _)⟩
theorem wk28_I:recI [] wk28T wk28Id=(some ⟨wk28Id,depsM wk28Id wk28Ops,wk28Ops⟩,0):=by unfold recI;rw [if_neg (by decide),wk28_R,if_pos rfl,if_pos wk28_good]
theorem wk28_size:SzT wk28T:=by
 intro f hf;have e:f=⟨⟨#[97]⟩,[],[⟨#[120]⟩]⟩:=by simpa [wk28T] using hf
 subst e;refine⟨by show 1≤maxLen;decide,(show ∀ x∈([]:List ByteArray),x.size≤maxLen from fun x hx=>absurd hx (by simp)),(show ∀ x∈([⟨#[120]⟩]:List ByteArray),x.size≤maxLen from fun x hx => ?_)⟩;have e:x=⟨#[120]⟩:=by simpa using hx
 subst e;show 1≤maxLen;decide
def Wk28Res(w:World)(e:Ending)(w':World):Prop:=∃ pd,∃ nd:Nat,∃ cd po co,e=.returned (.tuple #[patV wk28Id (.slice pd nd cd) (.slice po 3 co),.int .i64 0])∧GRow encOp 8 w' (.slice po 3 co) wk28Ops∧Be w w'
theorem wk28_rec(b:Nat)(tv:Value)(w:World)(hg:GrIs w b [])(ht:FRow w tv wk28T)(htab:Tab w):Calls Tryz.prog 15 #[.pointer (some ⟨b,0,none⟩),.int .u8 1,tv] w (Wk28Res w):=by refine(precord_any b [] 1 wk28T tv w 1 hg wf_nil (by decide) (by decide) (by decide) (by decide) (by decide) (fun f=>by show 0≤1;omega) ht wk28_size htab).mono ?_;intro e w' h;unfold RecRes at h;rw [wk28_next,wk28_I] at h;obtain⟨v,rfl,⟨dv,ov,rfl,hd,ho⟩,hb⟩:=h;obtain⟨pd,cd,e2,_,_,_⟩:=hd.at encPid_len;subst e2;obtain⟨po,co,e1,_,_,_⟩:=ho.at encOp_len;subst e1;exact⟨pd,_,cd,po,co,rfl,ho,hb⟩
theorem works28_any(w:World)(ht:Tab w):Calls Tryz.prog 10 #[] w fun e w'=>e=.returned (.bool true)∧Be w w':=by
 have HT:=Lh ht;clear ht;go_enter Tryz.func10,Tryz.ntmps10;go_upto_region 2 with(first
  | (go_at_call 15;refine(wk28_rec _ _ _ ((show GrIs _ _ [] from⟨bv,be,0,hg⟩).over ((bnew (w:=w1) _).alloc (by simp) _)) (wk28_frow w1) (HT.o.over (bvo hb ((bnew (w:=w1) _).alloc (by simp) _)))).mono ?_;rintro e w2 ⟨pd,nd,cd,po,co,rfl,ho,hb2⟩;have HO:=Lh ho;have HB2:=Lh (bov (bvo hb ((bnew (w:=w1) _).alloc (by simp) _)) (Below.size (bvo hb ((bnew (w:=w1) _).alloc (by simp) _))) hb2);clear ho hb2 hb hg k1 k2 k3;unfold patV;have HP:=Lh (anw w2 #[.int .u8 0,.int .u16 0,.slice none 0 0,.slice none 0 0] 44);have r0:=HP.o.k 0 rfl;have r1:=HP.o.k 1 rfl;have r2:=HP.o.k 2 rfl;have r3:=HP.o.k 3 rfl;have sr:=HP.o.lt;have rf0:=HP.o.free 0;have rf1:=HP.o.free 1;have rf2:=HP.o.free 2;have rf3:=HP.o.free 3)
  | (go_at_call 32;(with_reducible refine(gnew_any _).mono ?_);rintro e w1 ⟨b,bv,be,rfl,k1,k2,k3,hg,hb⟩))
 obtain⟨_,_,e1,c1,c2,hc⟩:=HO.o.at encOp_len;cases e1
 obtain⟨bo,oo,rfl,so,hcl⟩:=hc.resolve_left (by decide);unfold maxLen at c2;have hbn:=bnew (w:=w2) (.cells #[.int .u8 wk28Id.author.toNat,.int .u16 wk28Id.seq.toNat,.slice pd nd cd,.slice (some ⟨bo,oo,none⟩) 3 co] 44);have c3:3≤co:=c1;have x0:(w2.alloc (.cells #[.int .u8 wk28Id.author.toNat,.int .u16 wk28Id.seq.toNat,.slice pd nd cd,.slice (some ⟨bo,oo,none⟩) 3 co] 44)).cell? ⟨bo,oo,none⟩=some (.int .u8 1):=((hcl 0 _ rfl _ hbn)).2 0 _ rfl;have x1:(w2.alloc (.cells #[.int .u8 wk28Id.author.toNat,.int .u16 wk28Id.seq.toNat,.slice pd nd cd,.slice (some ⟨bo,oo,none⟩) 3 co] 44)).cell? ⟨bo,oo+15,none⟩=some (.string ⟨#[97]⟩):=((hcl 1 _ rfl _ hbn)).2 7 _ rfl;have x2:(w2.alloc (.cells #[.int .u8 wk28Id.author.toNat,.int .u16 wk28Id.seq.toNat,.slice pd nd cd,.slice (some ⟨bo,oo,none⟩) 3 co] 44)).cell? ⟨bo,oo+23,none⟩=some (.string ⟨#[120]⟩):=((hcl 2 _ rfl _ hbn)).2 7 _ rfl;have sx:=(hcl 0 _ rfl _ hbn).1;have HB3:=Lh (bvo HB2.o hbn);clear hcl hbn hc;go_wp2;go_ret;exact⟨rvl rfl,HB3.o⟩
end Go.Proofs.YtjccmcgglfncdaaGreatDoor
