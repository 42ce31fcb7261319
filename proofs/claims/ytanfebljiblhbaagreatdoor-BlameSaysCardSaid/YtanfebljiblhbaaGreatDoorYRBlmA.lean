/- Part of the proof that of any graph each file's lines, whose they are, and how many lines any author has, are as the document says. No conditions. -/
import Derived.Test.YtanfebljiblhbaaGreatDoorYBlmE
import Derived.Test.YtanfebljiblhbaaGreatDoorYRShoA
set_option linter.unusedVariables false
set_option linter.unusedSimpArgs false
set_option maxRecDepth 100000
set_option maxHeartbeats 40000000
namespace Go.Proofs.YtanfebljiblhbaaGreatDoor
open Go Go.RowKit
variable{t:List TLine}{v:Value}{w0 wr:World}
theorem slRTl:SlT Tryz.prog 39 43 4 24:=slT_of Tryz.underlying39 (by kernel_rfl) (by decide)
structure TlAt (wr w0:World) (v:Value) (t:List TLine):Prop where
 own:GOwn tlL 4 43 wr w0.heap.size v t
 world:Below w0.heap.size w0 wr
theorem TlAt.over{w':World}(h:TlAt wr w0 v t)(hb:Below wr.heap.size wr w'):TlAt w' w0 v t:=⟨h.own.over hb,bvo h.world hb⟩
theorem TlAt.push{w6:World}{v6:Value}(x:TLine)(h:TlAt wr w0 v t)(ho:w6.ownsRow w0.heap.size 43 4 v6 (t.length+1) (t.flatMap tlL++tlL x))(hg:wr.grownBy w6 v.ownBlock):TlAt w6 w0 v6 (t++[x]):=
 ⟨GOwn.snoc (enc:=tlL) (x:=x) ho,bgr h.world h.world.size h.own hg⟩
theorem TlAt.pushall{w6:World}{v6:Value}{sn:List TLine}(h:TlAt wr w0 v t)(ho:w6.ownsRow w0.heap.size 43 4 v6 (t.length+sn.length) (t.flatMap tlL++sn.flatMap tlL))(hg:wr.grownBy w6 v.ownBlock):TlAt w6 w0 v6 (t++sn):=
 ⟨by unfold GOwn;rw [List.length_append,List.flatMap_append];exact ho,bgr h.world h.world.size h.own hg⟩
theorem onesT(xs:List TLine):∀ u∈xs.flatMap tlL,u.oneCell'=true:=fun u hu=>by obtain⟨x,_,hx⟩:=List.mem_flatMap.1 hu;simp [tlL] at hx;rcases hx with rfl|rfl|rfl|rfl <;> rfl
theorem told_le(l:List VertM)(xs:List BlL)(j:Nat):(toldAll l (bareL (xs.take j))).length≤(toldAll l (bareL xs)).length:=(told_pre l xs j).length_le
theorem toldJ_le(l:List VertM)(m:ByteArray){sub:List BlL}{j:Nat}(h:j≤sub.length):(toldJoin l m true (bareL (sub.take j))).length≤(toldJoin l m true (bareL sub)).length:=(toldJ_pre l m sub (sub.length - j) j (by omega)).length_le
def RblRel(w0:World)(l:List VertM)(xs:List BlL)(v5 v6:Value)(wr:World):Prop:=∃ j:Nat,j≤xs.length∧v6=.int .i64 j∧∃ t:List TLine,t=toldAll l (bareL (xs.take j))∧Hid (TlAt wr w0 v5 t)
def RbjRel(w0:World)(gk:Nat)(l:List VertM)(m:ByteArray)(pre:List TLine)(kv nv sv:Value)(sub:List BlL)(v5 v8:Value)(wr:World):Prop:=∃ j:Nat,j≤sub.length∧v8=.int .i64 j∧∃ t:List TLine,t=pre++[markL7 markA]++toldJoin l m true (bareL (sub.take j))∧Hid (TlAt wr w0 v5 t)∧Hid (ArrT wr gk 175 [kv,nv,sv])
attribute [local irreducible] toldJoin toldAll toldOne bareL bareB
def RblC(lv sv0:Value)(l:List VertM)(R:List (Nat × Nat))(N:Nat):Prop:=∀(v:Value) (xs:List BlL) (w:World),SizeOf.sizeOf xs<N→GRow encBl 3 w v xs→BIns (fun _=>True) w xs→RSh w lv sv0 l R→(∀ b∈bareL xs,OkB l.length b)→(toldAll l (bareL xs)).length≤1000000 →
  Calls Tryz.prog 45 #[rsV lv l.length sv0,v] w (OwnRes tlL 4 43 w (toldAll l (bareL xs)))
theorem rbl_step(lv sv0:Value)(l:List VertM)(R:List (Nat × Nat))(N:Nat)(hih:RblC lv sv0 l R N):RblC lv sv0 l R (N+1):=by
 intro v xs w hs hv hi hS hok hlen;unfold RblC at hih;have HIH:=Lh hih;clear hih;obtain⟨lp,lc,sp,sc,rfl,rfl,hlc⟩:=hS.form;have hlr:=hS.rel.room;unfold maxLen at hlc;have HSh:=Lh (hS.over (bnew (w:=w) (.cells #[.slice lp l.length lc,.int .i64 l.length,.slice sp R.length sc] 105)));have HG:=Lh (arrT_new w [.slice lp l.length lc,.int .i64 l.length,.slice sp R.length sc] 105);have HB:=Lh (bnew (w:=w) (.cells #[.slice lp l.length lc,.int .i64 l.length,.slice sp R.length sc] 105));have HV:=Lh (hv.over (bnew (w:=w) (.cells #[.slice lp l.length lc,.int .i64 l.length,.slice sp R.length sc] 105)));have HI:=Lh (hi.over (bnew (w:=w) (.cells #[.slice lp l.length lc,.int .i64 l.length,.slice sp R.length sc] 105)));have HOK:=Lh hok;obtain⟨a,cap,rfl,h1,h2,_⟩:=hv.at encBl_len;unfold maxLen at h2;have HS:=Lh hs;have HLn:=Lh hlen;clear hv hi hs hS hlen hok;unfold rsV;go_enter Tryz.func45,Tryz.ntmps45;go_upto_region 1 with fail;generalize w.alloc (.cells #[.slice lp l.length lc,.int .i64 l.length,.slice sp R.length sc] 105)=w0 at *;generalize hgS:w.heap.size=gS at *;have HGS:=Lh hgS;clear hgS;have HC:Hid _:=Lh (HV.o.at encBl_len);have H0:Hid (TlAt w0 w0 (.slice none 0 0) []):=Lh ⟨gown_nil _ _,Below.refl _ _⟩;go_wp2;go_loopw [5,6] (fun v5 v6 wr=>RblRel w0 l xs v5 v6 wr) (fun _ v6 _=>xs.length - (intOf v6).toNat)
 case atStart=>exact⟨0,Nat.zero_le _,rfl,[],by rw [List.take_zero,bareL_nil,toldAll_nil],H0⟩
 obtain⟨jo,hj,rfl,t,ht,HJ⟩:=hrel;rename World=>wr;have HT:=Lh ht
 by_cases hlt:jo<xs.length
 rotate_left
 ·
  obtain rfl:jo=xs.length:=by omega
  have HE:Hid (toldAll l (bareL xs)=t):=Lh (by rw [ht,List.take_length]);clear ht;go_wp2;go_ret;have hsB:=HB.o.size;have hsG:gS≤w0.heap.size:=by rw [← HGS.o];exact HB.o.size
  have HBE:=bvo HB.o HJ.o.world;exact⟨_,rfl,by rw [HE.o];exact HJ.o.own.base hsB,HBE⟩
 obtain⟨a2,cap2,e2,_,_,hc⟩:=HC.o;obtain⟨rfl,_,rfl⟩:=Value.slice.inj e2;obtain⟨b,off,rfl,sb,hcb⟩:=hc.resolve_left (by omega);obtain⟨⟨kd,nm,sv,sub⟩,hx⟩:=gol hlt;have hr:=hcb jo _ hx wr HJ.o.world;have sx:=hr.1;have hm:=List.mem_of_getElem? hx;have hin:=bin_mk.1 (bins_mem HI.o hm);obtain⟨a',cap',esv,u1,u2,hcs0⟩:=hin.1.at encBl_len;subst esv;unfold maxLen at u2;have HCs:=Lh hcs0;have x0:wr.cell? ⟨b,off+jo*3,none⟩=some (.int .i64 kd):=hr.2 0 _ rfl;have x1:wr.cell? ⟨b,off+jo*3+1,none⟩=some (.int .i64 nm):=hr.2 1 _ rfl;have x2:wr.cell? ⟨b,off+jo*3+2,none⟩=some (.slice a' sub.length cap'):=hr.2 2 _ rfl;have HSub:=Lh hin.1;have HSin:=Lh hin.2.2.2;have HSz:Hid (SizeOf.sizeOf sub<N):=Lh (by have:=size_sub hm;have:=HS.o;omega);have HSu:=Lh (told_succ l hx);have hlj:t.length+(toldOne l (bareB (.mk kd nm (.slice a' sub.length cap') sub))).length≤1000000:=by have h9:=told_le l xs (jo+1);rw [HSu.o,List.length_append,← ht] at h9;have:=HLn.o;omega
 obtain⟨i,rfl,hil,hkd⟩:=okB_inv (show OkB l.length (.mk kd nm (bareL sub)) by
  have h9:=HOK.o (bareB (.mk kd nm (.slice a' sub.length cap') sub)) (by rw [bareL_map];exact List.mem_map_of_mem hm)
  rwa [bareB_mk] at h9)
 clear hcb hx hr hin hm ht hcs0 hc;go_upto_region 6 with fail;have HK:=Lh (arrT_new wr [.int .i64 kd,.int .i64 i,.slice a' sub.length cap'] 175);have HNw:=Lh (bnew (w:=wr) (.cells #[.int .i64 kd,.int .i64 i,.slice a' sub.length cap'] 175));have HJ1:=Lh (HJ.o.over HNw.o);obtain⟨gk,hgk⟩:∃ gk,gk=wr.heap.size:=⟨_,rfl⟩;rw [← hgk] at HK ⊢;generalize wr.alloc (.cells #[.int .i64 kd,.int .i64 i,.slice a' sub.length cap'] 175)=w3 at *;clear hgk x0 x1 x2 sx;have HKa:=Lh HK.o.arr;have HGw:=Lh ((HG.o.over HJ1.o.world).arr);obtain⟨y0,y1,y2,sy⟩:=HKa.o.c3;obtain⟨g0,g1,g2,sg⟩:=HGw.o.c3;rcases hkd with⟨hk1,hs0⟩|⟨hkd,hoks⟩
 ·
  subst hk1;obtain⟨x,hxl⟩:=gol hil;have HM1:Hid (toldOne l (bareB (.mk 1 (i:Int) (.slice a' sub.length cap') sub))=[⟨x.text,x.id⟩]):=Lh (by rw [bareB_mk,hs0];exact toldOne_line hxl);rw [HM1.o] at hlj;obtain⟨a7,c7',e7',_,_,hc7⟩:=(HSh.o.over HJ1.o.world).row.at encVert_len;cases e7'
  obtain⟨b7,off7,rfl,sb7,hcb7⟩:=hc7.resolve_left (by omega);have hrz:=hcb7 i x hxl w3 (Below.refl _ _);have z0:w3.cell? ⟨b7,off7+i*9,none⟩=some (.int .u8 x.id.pid.author.toNat):=hrz.2 0 _ rfl;have z1:w3.cell? ⟨b7,off7+i*9+1,none⟩=some (.int .u16 x.id.pid.seq.toNat):=hrz.2 1 _ rfl;have z2:w3.cell? ⟨b7,off7+i*9+2,none⟩=some (.int .u8 x.id.n.toNat):=hrz.2 2 _ rfl;have z7:w3.cell? ⟨b7,off7+i*9+7,none⟩=some (.string x.text):=hrz.2 7 _ rfl;have sz:=hrz.1;have hNc:t.length+1≤1099511627776:=by simp at hlj;omega
  have hBc:=HJ1.o.world.size;clear hlj hxl hc7 hcb7 hrz hs0;go_upto_region 7 with fail;refine wlo 17 fun hcur=>?_;repeat(first|refine lxq ?_|(refine lxl rfl ?_;go_wp2_with (first|(fail));refine⟨iov (by first|exact hcur|exact hcur.alloc hcur.size _),?_⟩))
  refine lxe ?_;have HJ2:=Lh (HJ1.o.over hcur);have HK2:=Lh (HK.o.over hcur);have hBc:=HJ2.o.world.size;clear hcur z0 z1 z2 z7 sz y0 y1 y2 sy g0 g1 g2 sg;go_wp2_with ((at_builtin;(first|refine apD slRTl rfl _ _ rfl w0.heap.size _ _ (dad _ _ _) 1 _ _ _ HJ2.o.own rfl rfl rfl rfl hNc (by decide) hBc ?_|refine apD slRTl rfl _ _ rfl w0.heap.size _ _ (drf _) 1 _ _ _ HJ2.o.own rfl rfl rfl rfl hNc (by decide) hBc ?_);intro vc wc hoc hgc);have HPc:=Lh (HJ1.o.push ⟨x.text,x.id⟩ hoc hgc);have HKc:=Lh (HK.o.grown HJ1.o.own (by decide) hgc);have HK8:=Lh HKc.o.arr;have q0:=HK8.o.k 0 rfl;have sq:=HK8.o.lt;clear hoc hgc);go_roundw
  case rel=>exact⟨jo+1,hlt,by go_num,_,by rw [HSu.o,HM1.o,← HT.o],HPc⟩
  simp [intOf];omega
 have hmk:(kd=4)∨∃ mk,(kd=2∧mk=markS)∨(kd=3∧mk=markT):=by rcases hkd with h|h|h;exact .inr ⟨_,.inl ⟨h,rfl⟩⟩;exact .inr ⟨_,.inr ⟨h,rfl⟩⟩;exact .inl h
 have HOks:=Lh hoks;clear hkd hoks;rcases hmk with hk4|⟨mk,hmk⟩
 ·
  subst hk4;have HM4:Hid (toldOne l (bareB (.mk 4 (i:Int) (.slice a' sub.length cap') sub))=toldAll l (bareL sub)):=Lh (by rw [bareB_mk,toldOne_mk];simp);rw [HM4.o] at hlj;have HCl:=Lh (HIH.o _ sub w3 HSz.o (HSub.o.over HJ1.o.world) (HSin.o.over HJ1.o.world) (HSh.o.over HJ1.o.world) HOks.o (by omega));unfold rsV at HCl;obtain⟨sn,hsn⟩:∃ sn,toldAll l (bareL sub)=sn:=⟨_,rfl⟩;rw [hsn] at HCl HM4 hlj;clear hsn;go_wp2_with fail
  with_reducible refine(HCl.o).mono ?_
  rintro e w5 ⟨v5,rfl,ho5,hb5⟩;have HR8:=Lh ho5.row;have H5:=Lh (HJ1.o.over hb5);have HK5:=Lh (HK.o.over hb5);clear ho5 hb5 y0 y1 y2 sy g0 g1 g2 sg;have hB8:=H5.o.world.size;go_wp2_with (at_builtin;refine wpList_append_old slRTl rfl _ _ rfl w0.heap.size _ _ _ H5.o.own rfl _ _ _ HR8.o rfl (onesT _) (by first|omega|(simp only [List.length_append,List.length_cons,List.length_nil];omega)) (by decide) hB8 ?_;intro v8 w8 ho8 hg8;have HP8:=Lh (H5.o.pushall ho8 hg8);have HK8:=Lh (HK5.o.grown H5.o.own (by decide) hg8);clear ho8 hg8;have HK9:=Lh HK8.o.arr;have y0:=HK9.o.k 0 rfl;have sy:=HK9.o.lt);go_roundw
  case rel=>exact⟨jo+1,hlt,by go_num,_,by rw [HSu.o,HM4.o,← HT.o],HP8⟩
  simp [intOf];omega
 have HMk:Hid (toldOne l (bareB (.mk kd (i:Int) (.slice a' sub.length cap') sub))=markL7 markA :: (toldJoin l mk true (bareL sub)++[markL7 markE])):=Lh (by rcases hmk with⟨rfl,rfl⟩|⟨rfl,rfl⟩ <;> (rw [bareB_mk,toldOne_mk];simp));have hlen2:t.length+(toldJoin l mk true (bareL sub)).length+2≤1000000:=by have h9:=hlj;rw [HMk.o] at h9;simp only [List.length_cons,List.length_append,List.length_nil] at h9;omega
 have HJl:Hid (∀ j,j≤sub.length→(toldJoin l mk true (bareL (sub.take j))).length≤(toldJoin l mk true (bareL sub)).length):=Lh fun j h=>toldJ_le l mk h;have HSu2:Hid (∀ j x,sub[j]? = some x→toldJoin l mk true (bareL (sub.take (j+1)))=toldJoin l mk true (bareL (sub.take j))++((if j=0 then [] else [markL7 mk])++toldOne l (bareB x))):=Lh fun j x h=>toldJ_succ l mk h;obtain⟨jn,hjn⟩:∃ jn,jn=(toldJoin l mk true (bareL sub)).length:=⟨_,rfl⟩;have HJn:=Lh hjn;rw [← hjn] at hlen2;clear hlj hjn;have hNa:t.length+1≤1099511627776:=by omega
 have hBa:=HJ1.o.world.size;rcases hmk with⟨rfl,hmk⟩|⟨rfl,hmk⟩
 all_goals
  have HMe:=Lh hmk
  clear hmk
  go_upto_region 12 with((at_builtin;(first|refine apD slRTl rfl _ _ rfl w0.heap.size _ _ (dad _ _ _) 1 _ _ _ HJ1.o.own rfl rfl rfl rfl hNa (by decide) hBa ?_|refine apD slRTl rfl _ _ rfl w0.heap.size _ _ (drf _) 1 _ _ _ HJ1.o.own rfl rfl rfl rfl hNa (by decide) hBa ?_);intro va wa hoa hga);have HPa:=Lh (HJ1.o.push (markL7 markA) hoa hga);have HKa2:=Lh (HK.o.grown HJ1.o.own (by decide) hga);clear hoa hga)
  clear y0 y1 y2 sy g0 g1 g2 sg hBa
  go_wp2
  go_loopw [5,8] (fun v5 v8 wq=>RbjRel w0 gk l mk t (.int .i64 _) (.int .i64 i) (.slice a' sub.length cap') sub v5 v8 wq) (fun _ v8 _=>sub.length - (intOf v8).toNat)
  case atStart=>exact⟨0,Nat.zero_le _,rfl,_,by rw [List.take_zero,bareL_nil,toldJoin_nil,List.append_nil],HPa,HKa2⟩
  case round =>
   obtain⟨j,hj,rfl,tq,htq,HQ,HKq⟩:=hrel
   rename World=>wq
   have HTq:=Lh htq
   have htl:tq.length≤t.length+1+jn:=by rw [htq,HJn.o];have:=HJl.o j hj;simp only [List.length_append,List.length_cons,List.length_nil];omega
   have HKs:=Lh HKq.o.arr
   clear htq
   obtain⟨y0,y1,y2,sy⟩:=HKs.o.c3
   by_cases hlt2:j<sub.length
   ·
    obtain⟨b',off',rfl,sb',hcs⟩:=HCs.o.resolve_left (by omega)
    obtain⟨⟨kx,nx,sx,ux⟩,hx⟩:=gol hlt2
    have hm:=List.mem_of_getElem? hx
    have HXi:=Lh (bins_mem HSin.o hm)
    have HX1:=Lh (blk_one HSub.o hx)
    have HSz1:Hid (SizeOf.sizeOf [BlL.mk kx nx sx ux]<N):=Lh (by have:=one_size hm;have:=HSz.o;omega)
    have HOx:Hid (∀ b∈bareL [BlL.mk kx nx sx ux],OkB l.length b):=Lh fun b hb=>HOks.o b (by
     rw [bareL_map] at hb ⊢
     rw [List.mem_singleton.1 hb]
     exact List.mem_map_of_mem hm)
    obtain⟨sn,hsn⟩:∃ sn,toldOne l (bareB (.mk kx nx sx ux))=sn:=⟨_,rfl⟩
    have hjs:=HSu2.o j _ hx
    rw [hsn] at hjs
    have hsl:sn.length≤1000000:=by
     have h9:=HJl.o (j+1) hlt2
     rw [hjs,List.length_append,List.length_append,← HJn.o] at h9
     omega
    have HSn:=Lh hjs
    have HCl:Hid (∀ V,Below w0.heap.size w0 V→Calls Tryz.prog 45 #[.agg #[.slice lp l.length lc,.int .i64 l.length,.slice sp R.length sc],.slice (some ⟨b',off'+j*3,none⟩) 1 (cap' - j)] V (OwnRes tlL 4 43 V sn)):=Lh fun V hV=>by
     have h9:=HIH.o _ [.mk kx nx sx ux] V HSz1.o (HX1.o.over hV) (bins_one (HXi.o.over hV)) (HSh.o.over hV) HOx.o (by rw [bareL_map,List.map_cons,List.map_nil,toldAll_one,hsn];exact hsl)
     rw [bareL_map,List.map_cons,List.map_nil,toldAll_one,hsn] at h9
     exact h9
    have gcj:¬ cap'=j:=by omega
    have hNb:tq.length+1≤1099511627776:=by omega
    have hBb:=HQ.o.world.size
    clear hcs hx hm hsn hjs
    rcases Classical.em (j=0) with hj0|hj0
    have g0:decide ((j:Int) > 0)=false:=decide_eq_false (by omega)
    have g1:¬ 0<j:=by omega
    have HIf:Hid (tq++((if j=0 then [] else [markL7 mk])++sn)=tq++sn):=Lh (by rw [if_pos hj0,List.nil_append])
    rotate_left
    have g0:decide ((j:Int) > 0)=true:=decide_eq_true (by omega)
    have g1:0<j:=by omega
    have HIf:Hid (tq++((if j=0 then [] else [markL7 mk])++sn)=tq++[markL7 mk]++sn):=Lh (by rw [if_neg hj0,List.append_assoc])
    all_goals
     clear hj0
     have HP:=HQ
     have HKz:=HKq
     go_upto_region 19 with((at_builtin;(first|refine apD slRTl rfl _ _ rfl w0.heap.size _ _ (dad _ _ _) 1 _ _ _ HQ.o.own rfl rfl rfl rfl hNb (by decide) hBb ?_|refine apD slRTl rfl _ _ rfl w0.heap.size _ _ (drf _) 1 _ _ _ HQ.o.own rfl rfl rfl rfl hNb (by decide) hBb ?_);intro vb wb hob hgb);have HP:Hid (TlAt wb w0 vb (tq++[markL7 mk])):=Lh (by rw [HMe.o];first|exact HQ.o.push (markL7 markS) hob hgb|exact HQ.o.push (markL7 markT) hob hgb);have HKz:=Lh (HKq.o.grown HQ.o.own (by decide) hgb);have HKb9:=Lh HKz.o.arr;have q0:=HKb9.o.k 0 rfl;have sq:=HKb9.o.lt;clear hob hgb)
     rename World=>wz
     have HKr:=Lh HKz.o.arr
     have HGr:=Lh ((HG.o.over HP.o.world).arr)
     have HCw:=Lh (fun V (hV:Below wz.heap.size wz V)=>HCl.o V (bvo HP.o.world hV))
     obtain⟨k0,k1,k2,sk⟩:=HKr.o.c3
     obtain⟨r0,r1,r2,sr⟩:=HGr.o.c3
     refine wlo 9 fun hcur=>?_
     repeat(first|refine lxq ?_|(refine lxl rfl ?_;go_wp2_with (first|(go_at_call 45;(with_reducible refine(HCw.o _ hcur).mono ?_);rintro e w5 ⟨v5,rfl,ho5,hb5⟩;have HR8:=Lh ho5.row;replace hcur:=bvo hcur hb5;clear ho5 hb5));refine⟨iov (by first|exact hcur|exact hcur.alloc hcur.size _),?_⟩))
     refine lxe ?_
     have H5:=Lh (HP.o.over hcur)
     have HK5:=Lh (HKz.o.over hcur)
     have hB8:=H5.o.world.size
     clear hcur k0 k1 k2 sk r0 r1 r2 sr
     go_wp2_with (at_builtin;refine wpList_append_old slRTl rfl _ _ rfl w0.heap.size _ _ _ H5.o.own rfl _ _ _ HR8.o rfl (onesT _) (by first|omega|(simp only [List.length_append,List.length_cons,List.length_nil];omega)) (by decide) hB8 ?_;intro v8 w8 ho8 hg8;have HP8:=Lh (H5.o.pushall ho8 hg8);have HK8:=Lh (HK5.o.grown H5.o.own (by decide) hg8);clear ho8 hg8)
     go_roundw
     case rel=>exact⟨j+1,hlt2,by go_num,_,by rw [HSn.o,← List.append_assoc,← HTq.o,HIf.o],HP8,HK8⟩
     case measure=>simp [intOf];omega
   ·
    obtain rfl:j=sub.length:=by omega
    have hNz:tq.length+1≤1099511627776:=by omega
    have hBz:=HQ.o.world.size
    go_wp2_with ((at_builtin;(first|refine apD slRTl rfl _ _ rfl w0.heap.size _ _ (dad _ _ _) 1 _ _ _ HQ.o.own rfl rfl rfl rfl hNz (by decide) hBz ?_|refine apD slRTl rfl _ _ rfl w0.heap.size _ _ (drf _) 1 _ _ _ HQ.o.own rfl rfl rfl rfl hNz (by decide) hBz ?_);intro vz wz hoz hgz);have HPz:=Lh (HQ.o.push (markL7 markE) hoz hgz);clear hoz hgz)
    go_roundw
    case rel=>exact⟨jo+1,hlt,by go_num,_,by rw [HSu.o,HMk.o,HTq.o,← HT.o,List.take_length];simp,HPz⟩
    case measure=>simp [intOf];omega
theorem rbl_rec(lv sv0:Value)(l:List VertM)(R:List (Nat × Nat)):∀ N,RblC lv sv0 l R N
 | 0=>fun v xs w hs _ _ _ _ _=>absurd hs (Nat.not_lt_zero _)
 | N+1=>rbl_step lv sv0 l R N (rbl_rec lv sv0 l R N)
theorem rbl_any(lv sv0:Value)(l:List VertM)(R:List (Nat × Nat))(N:Nat):RblC lv sv0 l R N:=rbl_rec lv sv0 l R N
end Go.Proofs.YtanfebljiblhbaaGreatDoor
