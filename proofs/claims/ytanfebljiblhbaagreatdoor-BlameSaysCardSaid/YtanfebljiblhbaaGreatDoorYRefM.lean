/- Part of the proof that of any graph each file's lines, whose they are, and how many lines any author has, are as the document says. No conditions. -/
import Derived.Test.YtanfebljiblhbaaGreatDoorYRefP
set_option linter.unusedVariables false
set_option linter.unusedSimpArgs false
set_option maxRecDepth 100000
set_option maxHeartbeats 40000000
namespace Go.Proofs.YtanfebljiblhbaaGreatDoor
open Go Go.RowKit
section
variable{e x:EdgeM}{o:List EdgeM}
def putStep(e:EdgeM)(s:List EdgeM × Bool)(x:EdgeM):List EdgeM × Bool:=
 if s.2=false∧(x=e∨aheadM e x=true) then(if x=e then s.1++[e] else(s.1++[e])++[x],true)
 else(if x=e then s.1 else s.1++[x],s.2)
def putSt(e:EdgeM)(l:List EdgeM)(k:Nat):List EdgeM × Bool:=(l.take k).foldl (putStep e) ([],false)
def putR(e:EdgeM)(l:List EdgeM):List EdgeM:=if(putSt e l l.length).2=true then(putSt e l l.length).1 else(putSt e l l.length).1++[e]
theorem putSt_zero(e:EdgeM)(l:List EdgeM):putSt e l 0=([],false):=rfl
theorem putSt_succ{l:List EdgeM}{k:Nat}(h:l[k]? = some x):putSt e l (k+1)=putStep e (putSt e l k) x:=by unfold putSt;rw [take_succ' h,List.foldl_append];rfl
theorem putStep_len(e x:EdgeM)(s:List EdgeM × Bool):(putStep e s x).1.length+(if(putStep e s x).2=true then 0 else 1)≤s.1.length+(if s.2=true then 0 else 1)+1:=by
 unfold putStep;obtain⟨l,b⟩:=s
 by_cases h:b=false∧(x=e∨aheadM e x=true)
 · rw [if_pos h];rw [h.1];by_cases hx:x=e <;> simp [hx]
 rw [if_neg h];by_cases hx:x=e <;> cases b <;> simp [hx]
theorem putSt_len(e:EdgeM)(l:List EdgeM):∀ k,(putSt e l k).1.length+(if(putSt e l k).2=true then 0 else 1)≤k+1
 | 0=>by rw [putSt_zero];simp
 | k+1=>by
  by_cases h:k<l.length
  · obtain⟨x,hx⟩:=gol h;rw [putSt_succ hx];have:=putStep_len e x (putSt e l k);have:=putSt_len e l k;omega
  have:putSt e l (k+1)=putSt e l k:=by unfold putSt;rw [List.take_of_length_le (by omega),List.take_of_length_le (by omega)]
  rw [this];have:=putSt_len e l k;omega
theorem step_a1(h:x=e):putStep e (o,true) x=(o,true):=by unfold putStep;simp [h]
theorem step_a2(h:¬ x=e):putStep e (o,true) x=(o++[x],true):=by unfold putStep;simp [h]
theorem step_b1(h:x=e):putStep e (o,false) x=(o++[e],true):=by unfold putStep;simp [h]
theorem step_b2(h:¬ x=e)(h2:aheadM e x=true):putStep e (o,false) x=((o++[e])++[x],true):=by unfold putStep;simp [h,h2]
theorem step_b3(h:¬ x=e)(h2:aheadM e x=false):putStep e (o,false) x=(o++[x],false):=by unfold putStep;simp [h,h2]
def PutIn(w0:World)(e:EdgeM)(l:List EdgeM)(v5 v6 v7:Value)(wr:World):Prop:=
 ∃(k:Nat) (o:List EdgeM) (b:Bool),k≤l.length∧v7=.int .i64 k∧v6=.bool b∧Hid (putSt e l k=(o,b))∧Hid (GOwn encEdge 6 143 wr w0.heap.size v5 o)∧Be w0 wr
attribute [local irreducible] aheadM putSt putStep
theorem rput20_any(v:Value)(l:List EdgeM)(e:EdgeM)(w:World)(hv:GRow encEdge 6 w v l)(hl:l.length≤100000) :
  Calls Tryz.prog 211 #[v,edgeV e] w (SetRes encEdge 6 w (putR e l)):=by
 have HA:=Lh (anw w #[.int .u8 e.1.pid.author.toNat,.int .u16 e.1.pid.seq.toNat,.int .u8 e.1.n.toNat,.int .u8 e.2.pid.author.toNat,.int .u16 e.2.pid.seq.toNat,.int .u8 e.2.n.toNat] 143);have HB:=Lh (bnew (w:=w) (.cells #[.int .u8 e.1.pid.author.toNat,.int .u16 e.1.pid.seq.toNat,.int .u8 e.1.n.toNat,.int .u8 e.2.pid.author.toNat,.int .u16 e.2.pid.seq.toNat,.int .u8 e.2.n.toNat] 143));obtain⟨a,cap,rfl,h1,h2,hc⟩:=hv.at encEdge_len;unfold maxLen at h2;have HC:=Lh hc;have gd:=fun p q xs ys w=>guard_edge .eql p q xs ys w;have gd2:=fun p q xs ys w=>guard_edge .neq p q xs ys w;clear hv hc;unfold edgeV;go_enter Tryz.func211,Tryz.ntmps211;go_upto_region 1 with fail;generalize w.alloc (.cells #[.int .u8 e.1.pid.author.toNat,.int .u16 e.1.pid.seq.toNat,.int .u8 e.1.n.toNat,.int .u8 e.2.pid.author.toNat,.int .u16 e.2.pid.seq.toNat,.int .u8 e.2.n.toNat] 143)=w0 at *;go_wp2;go_loopw [5,6,7] (fun v5 v6 v7 wr=>PutIn w0 e l v5 v6 v7 wr) (fun _ _ v7 _=>l.length - (intOf v7).toNat)
 case atStart=>exact⟨0,[],false,by omega,rfl,rfl,putSt_zero e l,gown_nil _ _,Below.refl _ _⟩
 obtain⟨k,o,b,hk,rfl,rfl,HS,HM,hbl⟩:=hrel;rename World=>wr;have hB2:=hbl.size;have hol:o.length≤k+1:=by have h:=putSt_len e l k;rw [HS.o] at h;simp only at h;omega
 have hN:o.length+1≤1099511627776:=by omega
 have HAr:=Lh (HA.o.over hbl);obtain⟨e0,e1,e2,e3,e4,e5,se⟩:=HAr.o.c6
 by_cases hlt:k<l.length
 rotate_left
 ·
  obtain rfl:k=l.length:=by omega
  have HE:=HM.o;cases b with
  | true =>have HP:Hid (putR e l=o):=(by show _=_;unfold putR;rw [HS.o];rfl);go_wp2;go_ret;exact⟨_,rfl,by rw [HP.o];exact HE.row,bvo HB.o hbl⟩
  | false =>have HP:Hid (putR e l=o++[e]):=(by show _=_;unfold putR;rw [HS.o];rfl);go_wp2_with (at_builtin;(first|refine apD slEdge rfl _ _ rfl w0.heap.size _ _ (dad _ _ _) 1 _ _ _ HM.o rfl rfl rfl rfl hN (by decide) hB2 ?_|refine apD slEdge rfl _ _ rfl w0.heap.size _ _ (drf _) 1 _ _ _ HM.o rfl rfl rfl rfl hN (by decide) hB2 ?_);intro v2 w2 ho2 hg2);go_ret;exact⟨_,rfl,by rw [HP.o];exact(GOwn.snoc ho2).row,bvo HB.o (bgr hbl hB2 HM.o hg2)⟩
 obtain⟨bo,off,rfl,sb,hcb⟩:=HC.o.resolve_left (by omega);obtain⟨x,hx⟩:=gol hlt;have HX:=Lh hx;have HCx:=Lh (hcb k x hx);clear hcb;have HRx:=Lh (HCx.o wr (bvo HB.o hbl));obtain⟨x0,x1,x2,x3,x4,x5,sx⟩:=rc6 HRx.o
 by_cases hxe:x=e
 ·
  have q1:=eql_edge x e true (by simp [hxe]);have q2:=neq_edge x e false (by simp [hxe]);unfold edgeV at q1 q2;cases b with
  | true =>
   have HSu:=Lh ((putSt_succ HX.o).trans ((congrArg (fun s=>putStep e s x) HS.o).trans (step_a1 hxe)));clear hxe;go_wp2_with fail;refine wlo 18 fun hcur=>?_;(repeat refine lxq ?_);refine lxe ?_;have HM3:=Lh (HM.o.over hcur);have hb3:=bov hbl hB2 hcur;generalize wr.drew=w3 at *;have hB3:=hb3.size;clear hcur e0 e1 e2 e3 e4 e5 se x0 x1 x2 x3 x4 x5 sx;go_upto_region 9 with fail;rename World=>wz;have HMz:=HM3;have hbz:=hb3;have hBz:=hB3;have hNz:=hN;have HRy:=Lh (HCx.o wz (bvo HB.o hbz));obtain⟨y0,y1,y2,y3,y4,y5,sy⟩:=rc6 HRy.o;have HAz:=Lh (HA.o.over hbz);obtain⟨f0,f1,f2,f3,f4,f5,sf⟩:=HAz.o.c6;refine wlo 6 fun hcur=>?_;(repeat refine lxq ?_);refine lxe ?_;clear hcur;go_wp2;go_roundw
   case rel=>exact⟨k+1,_,_,hlt,by go_num,rfl,HSu,Lh (HMz.o.over (Below.refl _ _).drew),hbz.drew⟩
   simp [intOf];omega
  | false =>
   have HSu:=Lh ((putSt_succ HX.o).trans ((congrArg (fun s=>putStep e s x) HS.o).trans (step_b1 hxe)));clear hxe;go_wp2_with fail;refine wlo 18 fun hcur=>?_;(repeat refine lxq ?_);refine lxe ?_;have HM3:=Lh (HM.o.over hcur);have hb3:=bov hbl hB2 hcur;generalize wr.drew=w3 at *;have hB3:=hb3.size;clear hcur e0 e1 e2 e3 e4 e5 se x0 x1 x2 x3 x4 x5 sx;have HA3:=Lh (HA.o.over hb3);obtain⟨e0,e1,e2,e3,e4,e5,se⟩:=HA3.o.c6;go_upto_region 9 with(at_builtin;(first|refine apD slEdge rfl _ _ rfl w0.heap.size _ _ (dad _ _ _) 1 _ _ _ HM3.o rfl rfl rfl rfl hN (by decide) hB3 ?_|refine apD slEdge rfl _ _ rfl w0.heap.size _ _ (drf _) 1 _ _ _ HM3.o rfl rfl rfl rfl hN (by decide) hB3 ?_);intro v2 wz ho2 hg2)
   have HMz:Hid (GOwn encEdge 6 143 wz w0.heap.size v2 (o++[e])):=Lh (GOwn.snoc ho2);have hbz:=bgr hb3 hB3 HM3.o hg2;have hBz:=hbz.size;have hNz:(o++[e]).length+1≤1099511627776:=(by simp;omega);clear ho2 hg2 e0 e1 e2 e3 e4 e5 se;have HRy:=Lh (HCx.o wz (bvo HB.o hbz));obtain⟨y0,y1,y2,y3,y4,y5,sy⟩:=rc6 HRy.o;have HAz:=Lh (HA.o.over hbz);obtain⟨f0,f1,f2,f3,f4,f5,sf⟩:=HAz.o.c6;refine wlo 6 fun hcur=>?_;(repeat refine lxq ?_);refine lxe ?_;clear hcur;go_wp2;go_roundw
   case rel=>exact⟨k+1,_,_,hlt,by go_num,rfl,HSu,Lh (HMz.o.over (Below.refl _ _).drew),hbz.drew⟩
   simp [intOf];omega
 have q1:=eql_edge x e false (by simp [hxe]);have q2:=neq_edge x e true (by simp [hxe]);unfold edgeV at q1 q2;cases b with
 | true =>
  have HSu:=Lh ((putSt_succ HX.o).trans ((congrArg (fun s=>putStep e s x) HS.o).trans (step_a2 hxe)));clear hxe;go_wp2_with fail;refine wlo 18 fun hcur=>?_;repeat refine lxq ?_
  refine lxe ?_;have HM3:=Lh (HM.o.over hcur);have hb3:=bov hbl hB2 hcur;generalize wr.drew=w3 at *;have hB3:=hb3.size;clear hcur e0 e1 e2 e3 e4 e5 se x0 x1 x2 x3 x4 x5 sx;go_upto_region 9 with fail;rename World=>wz;have HMz:=HM3;have hbz:=hb3;have hBz:=hB3;have hNz:=hN;have HRy:=Lh (HCx.o wz (bvo HB.o hbz));obtain⟨y0,y1,y2,y3,y4,y5,sy⟩:=rc6 HRy.o;have HAz:=Lh (HA.o.over hbz);obtain⟨f0,f1,f2,f3,f4,f5,sf⟩:=HAz.o.c6;refine wlo 6 fun hcur=>?_;repeat refine lxq ?_
  refine lxe ?_;clear hcur;go_wp2_with (at_builtin;(first|refine apD slEdge rfl _ _ rfl w0.heap.size _ _ (dad _ _ _) 1 _ _ _ HMz.o rfl rfl rfl rfl hNz (by decide) hBz ?_|refine apD slEdge rfl _ _ rfl w0.heap.size _ _ (drf _) 1 _ _ _ HMz.o rfl rfl rfl rfl hNz (by decide) hBz ?_);intro v4 w4 ho4 hg4);go_roundw
  case rel=>exact⟨k+1,_,_,hlt,by go_num,rfl,HSu,Lh (GOwn.snoc ho4),bgr hbz hBz HMz.o hg4⟩
  simp [intOf];omega
 | false =>
  cases ha:aheadM e x with
  | true =>
   have HH:=Lh ha;have HSu:=Lh ((putSt_succ HX.o).trans ((congrArg (fun s=>putStep e s x) HS.o).trans (step_b2 hxe ha)));clear hxe;clear ha;go_wp2_with fail;refine wlo 18 fun hcur=>?_;(repeat(first|refine lxq ?_|(refine lxl rfl ?_;go_wp2_with (first|(go_at_call 256;(with_reducible refine(rahead_any e x _).mono ?_);rintro e w9 ⟨rfl,hb⟩;rw [HH.o];have hcur:=bvo hcur hb));refine⟨iov hcur,?_⟩)));refine lxe ?_;have HM3:=Lh (HM.o.over hcur);have hb3:=bov hbl hB2 hcur;rename World=>w3;have hB3:=hb3.size;clear hcur e0 e1 e2 e3 e4 e5 se x0 x1 x2 x3 x4 x5 sx;have HA3:=Lh (HA.o.over hb3);obtain⟨e0,e1,e2,e3,e4,e5,se⟩:=HA3.o.c6;go_upto_region 9 with(at_builtin;(first|refine apD slEdge rfl _ _ rfl w0.heap.size _ _ (dad _ _ _) 1 _ _ _ HM3.o rfl rfl rfl rfl hN (by decide) hB3 ?_|refine apD slEdge rfl _ _ rfl w0.heap.size _ _ (drf _) 1 _ _ _ HM3.o rfl rfl rfl rfl hN (by decide) hB3 ?_);intro v2 wz ho2 hg2)
   have HMz:Hid (GOwn encEdge 6 143 wz w0.heap.size v2 (o++[e])):=Lh (GOwn.snoc ho2);have hbz:=bgr hb3 hB3 HM3.o hg2;have hBz:=hbz.size;have hNz:(o++[e]).length+1≤1099511627776:=(by simp;omega);clear ho2 hg2 e0 e1 e2 e3 e4 e5 se;have HRy:=Lh (HCx.o wz (bvo HB.o hbz));obtain⟨y0,y1,y2,y3,y4,y5,sy⟩:=rc6 HRy.o;have HAz:=Lh (HA.o.over hbz);obtain⟨f0,f1,f2,f3,f4,f5,sf⟩:=HAz.o.c6;refine wlo 6 fun hcur=>?_;(repeat refine lxq ?_);refine lxe ?_;clear hcur;go_wp2_with (at_builtin;(first|refine apD slEdge rfl _ _ rfl w0.heap.size _ _ (dad _ _ _) 1 _ _ _ HMz.o rfl rfl rfl rfl hNz (by decide) hBz ?_|refine apD slEdge rfl _ _ rfl w0.heap.size _ _ (drf _) 1 _ _ _ HMz.o rfl rfl rfl rfl hNz (by decide) hBz ?_);intro v4 w4 ho4 hg4);go_roundw
   case rel=>exact⟨k+1,_,_,hlt,by go_num,rfl,HSu,Lh (GOwn.snoc ho4),bgr hbz hBz HMz.o hg4⟩
   simp [intOf];omega
  | false =>
   have HH:=Lh ha;have HSu:=Lh ((putSt_succ HX.o).trans ((congrArg (fun s=>putStep e s x) HS.o).trans (step_b3 hxe ha)));clear hxe;clear ha;go_wp2_with fail;refine wlo 18 fun hcur=>?_;(repeat(first|refine lxq ?_|(refine lxl rfl ?_;go_wp2_with (first|(go_at_call 256;(with_reducible refine(rahead_any e x _).mono ?_);rintro e w9 ⟨rfl,hb⟩;rw [HH.o];have hcur:=bvo hcur hb));refine⟨iov hcur,?_⟩)));refine lxe ?_;have HM3:=Lh (HM.o.over hcur);have hb3:=bov hbl hB2 hcur;rename World=>w3;have hB3:=hb3.size;clear hcur e0 e1 e2 e3 e4 e5 se x0 x1 x2 x3 x4 x5 sx;go_upto_region 9 with fail;rename World=>wz;have HMz:=HM3;have hbz:=hb3;have hBz:=hB3;have hNz:=hN;have HRy:=Lh (HCx.o wz (bvo HB.o hbz));obtain⟨y0,y1,y2,y3,y4,y5,sy⟩:=rc6 HRy.o;have HAz:=Lh (HA.o.over hbz);obtain⟨f0,f1,f2,f3,f4,f5,sf⟩:=HAz.o.c6;refine wlo 6 fun hcur=>?_;(repeat refine lxq ?_);refine lxe ?_;clear hcur;go_wp2_with (at_builtin;(first|refine apD slEdge rfl _ _ rfl w0.heap.size _ _ (dad _ _ _) 1 _ _ _ HMz.o rfl rfl rfl rfl hNz (by decide) hBz ?_|refine apD slEdge rfl _ _ rfl w0.heap.size _ _ (drf _) 1 _ _ _ HMz.o rfl rfl rfl rfl hNz (by decide) hBz ?_);intro v4 w4 ho4 hg4);go_roundw
   case rel=>exact⟨k+1,_,_,hlt,by go_num,rfl,HSu,Lh (GOwn.snoc ho4),bgr hbz hBz HMz.o hg4⟩
   simp [intOf];omega
end
section
theorem putR_len(e:EdgeM)(l:List EdgeM):(putR e l).length≤l.length+1:=by
 have h:=putSt_len e l l.length;unfold putR
 by_cases hb:(putSt e l l.length).2=true
 · rw [if_pos hb] at h ⊢;omega
 rw [if_neg hb] at h ⊢;rw [List.length_append];exact h
def edStep(out:List EdgeM)(o:OpM):List EdgeM:=if o.kind.toNat=4 then putR (o.at',o.to) out else out
def edP(l:List EdgeM)(p:PatchM)(k:Nat):List EdgeM:=(p.ops.take k).foldl edStep l
def edX(xs:List LaidP):List EdgeM:=xs.foldl (fun out x=>edP out x.p x.p.ops.length) []
theorem edP_zero(l:List EdgeM)(p:PatchM):edP l p 0=l:=rfl
theorem edP_yes{l:List EdgeM}{p:PatchM}{k:Nat}{o:OpM}(ho:p.ops[k]? = some o)(h:o.kind.toNat=4):edP l p (k+1)=putR (o.at',o.to) (edP l p k):=by unfold edP;rw [take_succ' ho,List.foldl_append];show edStep _ o=_;unfold edStep;rw [if_pos h]
theorem edP_no{l:List EdgeM}{p:PatchM}{k:Nat}{o:OpM}(ho:p.ops[k]? = some o)(h:¬ o.kind.toNat=4):edP l p (k+1)=edP l p k:=by unfold edP;rw [take_succ' ho,List.foldl_append];show edStep _ o=_;unfold edStep;rw [if_neg h]
theorem edF_len:∀(ops:List OpM) (l:List EdgeM),(ops.foldl edStep l).length≤l.length+ops.length
 | [],l=>by simp
 | o :: ops,l=>by
  rw [List.foldl_cons,List.length_cons];have h1:=edF_len ops (edStep l o);have h2:(edStep l o).length≤l.length+1:=by
   unfold edStep;by_cases h:o.kind.toNat=4
   · rw [if_pos h];exact putR_len _ _
   rw [if_neg h];omega
  omega
theorem edP_len(l:List EdgeM)(p:PatchM)(k:Nat):(edP l p k).length≤l.length+k:=by unfold edP;have:=edF_len (p.ops.take k) l;rw [List.length_take] at this;omega
theorem edX_zero(xs:List LaidP):edX (xs.take 0)=[]:=rfl
theorem edX_succ{xs:List LaidP}{i:Nat}{x:LaidP}(h:xs[i]? = some x):edX (xs.take (i+1))=edP (edX (xs.take i)) x.p x.p.ops.length:=by unfold edX;rw [take_succ' h,List.foldl_append];rfl
theorem edX_lenF:∀(xs:List LaidP) (l:List EdgeM),(∀ x∈xs,x.p.ops.length≤260)→(xs.foldl (fun out x=>edP out x.p x.p.ops.length) l).length≤l.length+260*xs.length
 | [],l,_=>by simp
 | x :: xs,l,h=>by rw [List.foldl_cons,List.length_cons];have h1:=edX_lenF xs (edP l x.p x.p.ops.length) (fun y hy=>h y (List.mem_cons_of_mem _ hy));have h2:=edP_len l x.p x.p.ops.length;have h3:=h x (List.mem_cons_self ..);omega
theorem edX_len(xs:List LaidP)(h:∀ x∈xs,x.p.ops.length≤260):(edX xs).length≤260*xs.length:=by have:=edX_lenF xs [] h;simpa [edX] using this
def EdOut(w0:World)(xs:List LaidP)(v3 v4:Value)(wr:World):Prop:=∃ i:Nat,i≤xs.length∧v4=.int .i64 i∧Hid (GRow encEdge 6 wr v3 (edX (xs.take i)))∧Be w0 wr
def EdIn(w0:World)(p:PatchM)(l:List EdgeM)(v3 v5:Value)(wr:World):Prop:=∃ k:Nat,k≤p.ops.length∧v5=.int .i64 k∧Hid (GRow encEdge 6 wr v3 (edP l p k))∧Be w0 wr
attribute [local irreducible] edP edX putR
theorem redges20_any(gv:Value)(xs:List LaidP)(w:World)(hv:Pats w gv xs)(hn:xs.length≤300)(hl:∀ x∈xs,x.p.ops.length≤260) :
  Calls Tryz.prog 155 #[rgV gv] w (SetRes encEdge 6 w (edX xs)):=by
 have HL:=Lh hl;have HV:=Lh hv;obtain⟨a,cap,rfl,h1,h2,hc⟩:=hv.1.at encPat_len;unfold maxLen at h2;have HC:=Lh hc;have HG:=Lh (anw w #[.slice a xs.length cap] 33);have HB:=Lh (bnew (w:=w) (.cells #[.slice a xs.length cap] 33));clear hv hc hl;unfold rgV;go_enter Tryz.func155,Tryz.ntmps155;go_upto_region 1 with fail;generalize (w.alloc (.cells #[.slice a xs.length cap] 33))=w0 at *;go_wp2;go_loopw [3,4] (fun v3 v4 wr=>EdOut w0 xs v3 v4 wr) (fun _ v4 _=>xs.length - (intOf v4).toNat)
 case atStart=>exact⟨0,by omega,rfl,(by show GRow _ _ _ _ _;rw [edX_zero];exact(gown_nil (enc:=encEdge) (sz:=6) (e:=143) w0 w0.heap.size).row),Below.refl _ _⟩
 obtain⟨i,hi,rfl,HM,hbl⟩:=hrel;have HBr:=Lh (bvo HB.o hbl);have HGr:=Lh (HG.o.over hbl);rename World=>wo;obtain⟨g0,sg⟩:=HGr.o.c1
 by_cases hlt:i<xs.length
 rotate_left
 ·
  obtain rfl:i=xs.length:=by omega
  have hxl:=edX_len xs HL.o;have HE:=HM.o;rw [List.take_length] at HE;have HE2:=Lh HE;clear HE HM;go_wp2;go_ret;exact⟨_,rfl,HE2.o,HBr.o⟩
 obtain⟨bo,off,rfl,sb,hcb⟩:=HC.o.resolve_left (by omega);obtain⟨x,hx⟩:=gol hlt;have HX:=Lh hx;have hp:PatOk w x:=HV.o.2 x (List.mem_of_getElem? hx);have hlx:=HL.o x (List.mem_of_getElem? hx);obtain⟨ao,capo,hov,t1,t2,hco⟩:=hp.2.at encOp_len;unfold maxLen at t2;have HCo:=Lh hco;have HCb:=Lh (hcb i x hx);have HSu:=Lh (edX_succ hx);have hxl:(edX (xs.take i)).length≤260*300:=by have:=edX_len (xs.take i) (fun y hy=>HL.o y (List.mem_of_mem_take hy));rw [List.length_take] at this;omega
 generalize edX (xs.take i)=Li at *;clear hcb hx hp hco;go_wp2_with fail;clear g0 sg;go_hide hQ;go_loopw [3,5] (fun v3 v5 wi=>EdIn w0 x.p Li v3 v5 wi) (fun _ v5 _=>x.p.ops.length - (intOf v5).toNat)
 case atStart=>exact⟨0,by omega,rfl,(by show GRow _ _ _ _ _;rw [edP_zero];exact HM.o),hbl⟩
 rename World=>wr;obtain⟨k,hk,rfl,HM2,hbi⟩:=hrel;have hfl:=edP_len Li x.p k;have hN:(edP Li x.p k).length≤100000:=by omega
 have HB5:=Lh (bvo HB.o hbi);have HG5:=Lh (HG.o.over hbi);have HRx:=Lh (HCb.o wr HB5.o);obtain⟨g0,sg⟩:=HG5.o.c1;obtain⟨x0,x1,x2,x3,sx⟩:=rc4 HRx.o;rw [hov] at x3
 by_cases hlk:k<x.p.ops.length
 rotate_left
 ·
  obtain rfl:k=x.p.ops.length:=by omega
  go_wp2;subst hQ;go_wp2;go_roundw
  case rel=>exact⟨i+1,hlt,by go_num,(by show GRow _ _ _ _ _;rw [HSu.o];exact HM2.o),hbi⟩
  simp [intOf];omega
 obtain⟨b2,off2,rfl,sb2,hcb2⟩:=HCo.o.resolve_left (by omega);obtain⟨o,ho⟩:=gol hlk;have HO:=Lh ho;have HRo:=Lh (hcb2 k o ho wr HB5.o);obtain⟨o0,o1,o2,o3,o4,o5,o6,o7,so⟩:=rc8 HRo.o;clear hcb2 ho;go_upto_region 9 with fail;have HO6:=Lh (anw wr (cO o) 96);have hb6:=hbi.alloc hbi.size (.cells (cO o) 96);have HM6:=Lh (HM2.o.over (bnew (.cells (cO o) 96)));generalize wr.alloc (.cells (cO o) 96)=w6 at *;clear o0 o1 o2 o3 o4 o5 o6 o7 so x0 x1 x2 x3 sx g0 sg;obtain⟨o0,o1,o2,o3,o4,o5,o6,o7,so⟩:=HO6.o.c8
 by_cases h4:o.kind.toNat=4
 ·
  have e4:((o.kind.toNat:Int) == 4)=true:=by simp;omega
  have HN:=Lh (edP_yes (l:=Li) HO.o h4);clear h4;go_wp2_with (first|(go_at_call 211;(with_reducible refine(rput20_any _ (edP Li x.p k) (o.at',o.to) _ HM6.o hN).mono ?_);rintro e w7 ⟨u,rfl,hu,hb⟩));go_roundw
  case rel=>exact⟨k+1,hlk,by go_num,(by show GRow _ _ _ _ _;rw [HN.o];exact hu),bvo hb6 hb⟩
  simp [intOf];omega
 have e4:((o.kind.toNat:Int) == 4)=false:=by simp;omega
 have HN:=Lh (edP_no (l:=Li) HO.o h4);clear h4;go_wp2;go_roundw
 case rel=>exact⟨k+1,hlk,by go_num,(by show GRow _ _ _ _ _;rw [HN.o];exact HM6.o),hb6⟩
 simp [intOf];omega
end
theorem packVid_top(v:VidM):packVid v<4294967296:=by have h1:=v.pid.author.toNat_lt;have h2:=v.pid.seq.toNat_lt;have h3:=v.n.toNat_lt;unfold packVid packPid;omega
theorem ahead_key(a b:EdgeM):aheadM a b=decide (edgeKey a<edgeKey b):=by
 have h1:=packVid_top a.2;have h2:=packVid_top b.2;have hc (x y:VidM):(cmpVid x y<0)↔packVid x<packVid y:=by
  unfold cmpVid;rcases Nat.lt_trichotomy (packVid x) (packVid y) with h|h|h
  · rw [cmpN_lt h];simp [h]
  · rw [cmpN_eq h];simp [h]
  rw [cmpN_gt h];simp;omega
 unfold aheadM edgeKey
 by_cases h:a.1=b.1
 · rw [if_pos h,h,Bool.eq_iff_iff,decide_eq_true_iff,decide_eq_true_iff,hc];omega
 rw [if_neg h,Bool.eq_iff_iff,decide_eq_true_iff,decide_eq_true_iff,hc];have:packVid a.1≠packVid b.1:=fun e=>h (packVid_inj e);omega
theorem put_true(e:EdgeM):∀(l o:List EdgeM),¬ e∈l→l.foldl (putStep e) (o,true)=(o++l,true)
 | [],o,_=>by simp
 | x :: l,o,h=>by have hx:¬ x=e:=fun q=>h (by rw [q];exact List.mem_cons_self ..);rw [List.foldl_cons,step_a2 hx,put_true e l _ (fun q=>h (List.mem_cons_of_mem _ q))];simp
theorem put_false(e:EdgeM):∀(l o:List EdgeM),Rises edgeKey l→(if(l.foldl (putStep e) (o,false)).2=true then(l.foldl (putStep e) (o,false)).1 else(l.foldl (putStep e) (o,false)).1++[e])=o++putS edgeKey e l
 | [],o,_=>by simp [putS]
 | x :: l,o,h=>by
  obtain⟨h1,h2⟩:=List.pairwise_cons.1 h
  by_cases hx:x=e
  ·
   have hn:¬ e∈l:=fun q=>by have:=h1 e q;rw [hx] at this;omega
   rw [List.foldl_cons,step_b1 hx,put_true e l _ hn,putS_eq (by rw [hx])];subst hx;simp
  cases ha:aheadM e x with
  | true =>
   have hk:edgeKey e<edgeKey x:=(by rw [ahead_key] at ha;simpa using ha);have hn:¬ e∈l:=fun q=>by have:=h1 e q;omega
   rw [List.foldl_cons,step_b2 hx ha,put_true e l _ hn,putS_lt hk];simp
  | false =>
   have hk:edgeKey x<edgeKey e:=by rw [ahead_key] at ha;have:¬ edgeKey e<edgeKey x:=(by simpa using ha);have:edgeKey x≠edgeKey e:=fun q=>hx (edgeKey_hi _ _ q);omega
   rw [List.foldl_cons,step_b3 hx ha,put_false e l _ h2,putS_gt hk];simp
theorem putR_eq{e:EdgeM}{l:List EdgeM}(h:Rises edgeKey l):putR e l=putS edgeKey e l:=by unfold putR putSt;rw [List.take_length];exact(put_false e l [] h).trans (by simp)
theorem edF_eq:∀(ops:List OpM) (l:List EdgeM),Rises edgeKey l→ops.foldl edStep l=(ops.filterMap fun o=>if o.kind=4 then some (o.at',o.to) else none).foldl (fun out x=>putS edgeKey x out) l∧Rises edgeKey (ops.foldl edStep l)
 | [],l,h=>⟨rfl,h⟩
 | o :: ops,l,h=>by
  by_cases h4:o.kind.toNat=4
  · have hk:o.kind=4:=(u8_nat o.kind 4 (by omega)).2 h4;have hs:edStep l o=putS edgeKey (o.at',o.to) l:=(by unfold edStep;rw [if_pos h4];exact putR_eq h);rw [List.foldl_cons,hs,List.filterMap_cons,if_pos hk,List.foldl_cons];exact edF_eq ops _ (rises_putS edgeKey_hi _ h)
  have hk:¬ o.kind=4:=fun e=>h4 (by rw [e];rfl);have hs:edStep l o=l:=by unfold edStep;rw [if_neg h4]
  rw [List.foldl_cons,hs,List.filterMap_cons,if_neg hk];exact edF_eq ops l h
theorem edX_go:∀(xs:List LaidP) (l:List EdgeM),Rises edgeKey l→xs.foldl (fun out x=>edP out x.p x.p.ops.length) l=(edgesOf (patsOf xs)).foldl (fun out x=>putS edgeKey x out) l
 | [],l,_=>rfl
 | x :: xs,l,h=>by
  have e1:edP l x.p x.p.ops.length=x.p.ops.foldl edStep l:=by unfold edP;rw [List.take_length]
  obtain⟨h1,h2⟩:=edF_eq x.p.ops l h;have e2:edgesOf (patsOf (x :: xs))=(x.p.ops.filterMap fun o=>if o.kind=4 then some (o.at',o.to) else none)++edgesOf (patsOf xs):=by unfold edgesOf;rfl
  rw [List.foldl_cons,e1,e2,List.foldl_append,← h1];exact edX_go xs _ h2
theorem edX_eq(xs:List LaidP):edX xs=edgesM (patsOf xs):=edX_go xs [] List.Pairwise.nil
def stTo(L:List PatchM)(l:List EdgeM)(file:VidM)(k:Nat):List EdgeM:=(l.take k).filter fun e=>decide (fileAt L e.1=file)
theorem stTo_all(L:List PatchM)(file:VidM):stTo L (edgesM L) file (edgesM L).length=stepsM L file:=by unfold stTo stepsM;rw [List.take_length]
theorem stTo_zero(L:List PatchM)(l:List EdgeM)(file:VidM):stTo L l file 0=[]:=rfl
theorem stTo_yes{L:List PatchM}{l:List EdgeM}{file:VidM}{k:Nat}{e:EdgeM}(h:l[k]? = some e)(h1:fileAt L e.1=file):stTo L l file (k+1)=stTo L l file k++[e]:=by unfold stTo;rw [take_succ' h,List.filter_append];simp [h1]
theorem stTo_no{L:List PatchM}{l:List EdgeM}{file:VidM}{k:Nat}{e:EdgeM}(h:l[k]? = some e)(h1:¬ fileAt L e.1=file):stTo L l file (k+1)=stTo L l file k:=by unfold stTo;rw [take_succ' h,List.filter_append];simp [h1]
theorem stTo_len(L:List PatchM)(l:List EdgeM)(file:VidM)(k:Nat):(stTo L l file k).length≤l.length:=by unfold stTo;exact Nat.le_trans (List.length_filter_le _ _) (by rw [List.length_take];omega)
def StIn(w2:World)(L:List PatchM)(l:List EdgeM)(file:VidM)(v5 v7:Value)(wr:World):Prop:=∃ k:Nat,k≤l.length∧v7=.int .i64 k∧Hid (GOwn encEdge 6 143 wr w2.heap.size v5 (stTo L l file k))∧Be w2 wr
attribute [local irreducible] edgesM stTo vertM optV edX fileAt
theorem rsteps20_any(gv:Value)(xs:List LaidP)(v:VidM)(w:World)(hv:Pats w gv xs)(hn:xs.length≤300)(hl:∀ x∈xs,x.p.ops.length≤260)(hil:(edgesM (patsOf xs)).length≤100000) :
  Calls Tryz.prog 91 #[rgV gv,vidV v] w (SetRes encEdge 6 w (stepsM (patsOf xs) v)):=by
 rw [← stTo_all];have gd:=fun p q xs ys w=>guard_vid .eql p q xs ys w;have HL:=Lh hl;have HL4:Hid (∀ x∈xs,x.p.ops.length≤40000):=Lh fun x hx=>Nat.le_trans (hl x hx) (by omega);have HV:=Lh hv;obtain⟨a,cap,rfl,h1,h2,hc⟩:=hv.1.at encPat_len;unfold maxLen at h2;have HC:=Lh hc;have HG:=Lh ((anw w #[.slice a xs.length cap] 33).alloc (.cells (cV v) 27));have HQ:=Lh (an2 w (.cells #[.slice a xs.length cap] 33) (cV v) 27);have HB:=Lh ((bnew (w:=w) (.cells #[.slice a xs.length cap] 33)).alloc (by simp) (.cells (cV v) 27));clear hv hc hl;unfold rgV vidV;go_enter Tryz.func91,Tryz.ntmps91;go_upto_region 1 with fail;generalize (w.alloc (.cells #[.slice a xs.length cap] 33)).alloc (.cells (cV v) 27)=w0 at *;obtain⟨g0,sg⟩:=HG.o.c1;have HV0:=Lh (HV.o.over HB.o);go_upto_region 3 with(first|(go_at_call 155;(with_reducible refine(redges20_any _ xs _ (HV0.o.over (Below.refl _ _)) hn HL.o).mono ?_);rintro e w2 ⟨u2,rfl,hu2,hb2⟩))
 rw [edX_eq] at hu2;generalize edgesM (patsOf xs)=l at *;obtain⟨a3,cap3,rfl,t1,t2,hc3⟩:=hu2.at encEdge_len;unfold maxLen at t2;have HC3:=Lh hc3;have HG2:=Lh (HG.o.over hb2);have HQ2:=Lh (HQ.o.over hb2);have HB2:=Lh (bvo HB.o hb2);have HV2:=Lh (HV.o.over HB2.o);clear hu2 hc3 hb2 g0 sg;go_wp2;go_loopw [5,7] (fun v5 v7 wr=>StIn w2 (patsOf xs) l v v5 v7 wr) (fun _ v7 _=>l.length - (intOf v7).toNat)
 case atStart=>exact⟨0,by omega,rfl,(by show GOwn _ _ _ _ _ _ _;rw [stTo_zero];exact gown_nil _ _),Below.refl _ _⟩
 obtain⟨k,hk,rfl,HM,hbl⟩:=hrel;rename World=>wr;have hvl:=stTo_len (patsOf xs) l v k
 by_cases hlt:k<l.length
 rotate_left
 ·
  obtain rfl:k=l.length:=by omega
  have HE:=HM.o;have HE2:=Lh HE.row;clear HE HM;go_wp2;go_ret;exact⟨_,rfl,HE2.o,bvo HB2.o hbl⟩
 obtain⟨b3,off3,rfl,sb3,hcb⟩:=HC3.o.resolve_left (by omega);obtain⟨u,hu⟩:=gol hlt;have HUk:=Lh hu;have HU:=Lh (hcb k u hu wr hbl);have HUCB:=Lh (hcb k u hu);obtain⟨u0,u1,u2,su⟩:=rc3 HU.o;have HGr:=Lh (HG2.o.over hbl);have HVr:=Lh (HV2.o.over hbl);obtain⟨g0,sg⟩:=HGr.o.c1;have HF:=Lh (file_at (patsOf xs) u.1);generalize hx:vertM (patsOf xs) u.1=x at *;have HX:=Lh hx;clear hx hcb hu;generalize hy:optV x=y at *;have HY:=Lh hy;clear hy;go_upto_region 6 with fail;have HS:Hid (∀ w':World,Be wr w'→(w'.cell? ⟨w.heap.size,0,none⟩=some (.slice a xs.length cap)∧w'.cell? ⟨b3,off3+k*6,none⟩=some (.int .u8 u.1.pid.author.toNat)∧w'.cell? ⟨b3,off3+k*6+1,none⟩=some (.int .u16 u.1.pid.seq.toNat)∧w'.cell? ⟨b3,off3+k*6+2,none⟩=some (.int .u8 u.1.n.toNat)∧Be wr w')):=fun w' hb=>⟨(hb.cell (p:=⟨w.heap.size,0,none⟩) sg).trans g0,(hb.cell (p:=⟨b3,off3+k*6,none⟩) su).trans u0,(hb.cell (p:=⟨b3,off3+k*6+1,none⟩) su).trans u1,(hb.cell (p:=⟨b3,off3+k*6+2,none⟩) su).trans u2,hb⟩;go_cut [8] (fun s8 wx=>∃ g2,s8=.pointer (some ⟨g2,0,none⟩)∧Hid (Arr wx g2 [.int .u8 y.id.pid.author.toNat,.int .u16 y.id.pid.seq.toNat,.int .u8 y.id.n.toNat,.int .u8 y.kind.toNat,.int .u8 y.file.pid.author.toNat,.int .u16 y.file.pid.seq.toNat,.int .u8 y.file.n.toNat,.string y.text,.bool y.dead])∧Hid (Be wr wx)∧wr.heap.size≤g2)
 case first =>
  go_region_held3 (fun w'=>w'.cell? ⟨w.heap.size,0,none⟩=some (.slice a xs.length cap)∧w'.cell? ⟨b3,off3+k*6,none⟩=some (.int .u8 u.1.pid.author.toNat)∧w'.cell? ⟨b3,off3+k*6+1,none⟩=some (.int .u16 u.1.pid.seq.toNat)∧w'.cell? ⟨b3,off3+k*6+2,none⟩=some (.int .u8 u.1.n.toNat)∧Be wr w') ((refine HS.o _ ?_;(with_reducible (first|exact(Below.refl _ _).drew|exact HBk.o|exact HBk.o.alloc HBk.o.size _|exact((Below.refl wr.heap.size wr).alloc (Nat.le_refl _) _).drew|exact(((((((((HBk.o.setCell (p:=⟨wr.heap.size,0,none⟩) (Nat.le_refl _) (.int .u8 y.id.pid.author.toNat)).setCell (p:=⟨wr.heap.size,1,none⟩) (Nat.le_refl _) (.int .u16 y.id.pid.seq.toNat)).setCell (p:=⟨wr.heap.size,2,none⟩) (Nat.le_refl _) (.int .u8 y.id.n.toNat)).setCell (p:=⟨wr.heap.size,3,none⟩) (Nat.le_refl _) (.int .u8 y.kind.toNat)).setCell (p:=⟨wr.heap.size,4,none⟩) (Nat.le_refl _) (.int .u8 y.file.pid.author.toNat)).setCell (p:=⟨wr.heap.size,5,none⟩) (Nat.le_refl _) (.int .u16 y.file.pid.seq.toNat)).setCell (p:=⟨wr.heap.size,6,none⟩) (Nat.le_refl _) (.int .u8 y.file.n.toNat)).setCell (p:=⟨wr.heap.size,7,none⟩) (Nat.le_refl _) (.string y.text)).setCell (p:=⟨wr.heap.size,8,none⟩) (Nat.le_refl _) (.bool y.dead))))))
   (first|(go_at_call 89;refine(rvert20_any _ xs u.1 _ (HVr.o.over (by first|exact(Below.refl _ _).drew|exact((Below.refl wr.heap.size wr).alloc (Nat.le_refl _) _).drew)) HL4.o).mono ?_;rintro e w7 ⟨rfl,hb⟩;rw [HX.o,HY.o];have HBk:Hid (Be wr w7):=(by show Be wr w7;with_reducible (first|exact bov (Below.refl wr.heap.size wr).drew (Nat.le_refl _) hb|exact bov (((Below.refl wr.heap.size wr).alloc (Nat.le_refl _) _).drew) (Below.size (((Below.refl wr.heap.size wr).alloc (Nat.le_refl _) _).drew)) hb));have HBb:=Lh hb;obtain⟨hcc,hff⟩:=bcell hb;clear hb))
  ·
   rename_i J K hJ hK hHeld;clear hHeld;refine hK _ _ (Met.intro (hJ _ _ ?_))
   (repeat apply Exists.intro)
   refine⟨?_,rfl⟩;exact⟨_,rfl,Lh (anw _ _ _),Lh (HBk.o.alloc HBk.o.size _),HBk.o.size⟩
  rename_i J K hJ hK hHeld;clear hHeld;refine hK _ _ (Met.intro (hJ _ _ ?_))
  (repeat apply Exists.intro)
  refine⟨?_,rfl⟩;have HZ:Hid (Arr w7 wr.heap.size [.int .u8 0,.int .u16 0,.int .u8 0,.int .u8 0,.int .u8 0,.int .u16 0,.int .u8 0,.string ⟨#[]⟩,.bool false]):=(((anw wr #[.int .u8 0,.int .u16 0,.int .u8 0,.int .u8 0,.int .u8 0,.int .u16 0,.int .u8 0,.string ⟨#[]⟩,.bool false] 86).drew).over HBb.o);exact⟨_,rfl,Lh (((((((((HZ.o.set 0 (.int .u8 y.id.pid.author.toNat)).set 1 (.int .u16 y.id.pid.seq.toNat)).set 2 (.int .u8 y.id.n.toNat)).set 3 (.int .u8 y.kind.toNat)).set 4 (.int .u8 y.file.pid.author.toNat)).set 5 (.int .u16 y.file.pid.seq.toNat)).set 6 (.int .u8 y.file.n.toNat)).set 7 (.string y.text)).set 8 (.bool y.dead)),Lh (((((((((HBk.o.setCell (p:=⟨wr.heap.size,0,none⟩) (Nat.le_refl _) (.int .u8 y.id.pid.author.toNat)).setCell (p:=⟨wr.heap.size,1,none⟩) (Nat.le_refl _) (.int .u16 y.id.pid.seq.toNat)).setCell (p:=⟨wr.heap.size,2,none⟩) (Nat.le_refl _) (.int .u8 y.id.n.toNat)).setCell (p:=⟨wr.heap.size,3,none⟩) (Nat.le_refl _) (.int .u8 y.kind.toNat)).setCell (p:=⟨wr.heap.size,4,none⟩) (Nat.le_refl _) (.int .u8 y.file.pid.author.toNat)).setCell (p:=⟨wr.heap.size,5,none⟩) (Nat.le_refl _) (.int .u16 y.file.pid.seq.toNat)).setCell (p:=⟨wr.heap.size,6,none⟩) (Nat.le_refl _) (.int .u8 y.file.n.toNat)).setCell (p:=⟨wr.heap.size,7,none⟩) (Nat.le_refl _) (.string y.text)).setCell (p:=⟨wr.heap.size,8,none⟩) (Nat.le_refl _) (.bool y.dead)),Nat.le_refl _⟩
 obtain⟨g2,rfl,HA2,HBx,hg2⟩:=hcut;rename World=>w8;have HM8:=Lh (HM.o.over HBx.o);have hb8:=bvo hbl HBx.o;have hB8:=hb8.size;have hN8:(stTo (patsOf xs) l v k).length+1≤1099511627776:=by omega
 clear u0 u1 u2 su g0 sg HS HM HGr;obtain⟨y0,y1,y2,y3,y4,y5,y6,y7,y8,sy⟩:=HA2.o.c9;have HQ8:=Lh (HQ2.o.over hb8);obtain⟨q0,q1,q2,sq⟩:=HQ8.o.c3;have hf:fileAt (patsOf xs) u.1=y.file:=HF.o;have HU8:=Lh (HUCB.o w8 hb8);obtain⟨d0,d1,d2,d3,d4,d5,sd⟩:=rc6 HU8.o
 by_cases h1:y.file=v
 ·
  have e2:=eql_vid y.file v true (by simp [h1]);unfold vidV at e2;have HN:=Lh (stTo_yes HUk.o (hf.trans h1));clear h1 hf;go_wp2_with (at_builtin;refine apD slEdge rfl _ _ rfl w2.heap.size _ _ (drf _) 1 _ _ _ HM8.o rfl rfl rfl rfl hN8 (by decide) hB8 ?_;intro v9 w9 ho9 hg9);go_roundw
  case rel=>exact⟨k+1,hlt,by go_num,(by show GOwn _ _ _ _ _ _ _;rw [HN.o];exact GOwn.snoc ho9),bgr hb8 hB8 HM8.o hg9⟩
  simp [intOf];omega
 have e2:=eql_vid y.file v false (by simp [h1]);unfold vidV at e2;have HN:=Lh (stTo_no HUk.o (fun q=>h1 (hf.symm.trans q)));clear h1 hf;go_wp2;go_roundw
 case rel=>exact⟨k+1,hlt,by go_num,(by show GOwn _ _ _ _ _ _ _;rw [HN.o];exact HM8.o),hb8⟩
 simp [intOf];omega
end Go.Proofs.YtanfebljiblhbaaGreatDoor
