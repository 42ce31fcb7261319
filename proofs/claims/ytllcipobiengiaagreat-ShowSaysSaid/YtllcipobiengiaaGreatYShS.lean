/- Contract of bruitref22.piece: that of bruitref22.Of at shorter lists taken as given. Contract of bruitref22.Of. Contract of bruitref22.Odd. Contract of bruitref23.Lines. ShowSays. -/
import Derived.Test.YtllcipobiengiaaGreatYWq
set_option linter.unusedVariables false
set_option linter.unusedSimpArgs false
namespace Go.Proofs.YtllcipobiengiaaGreat
open Go Go.RowKit

def KnRel(w2:World)(gb:Nat)(l:List Nat)(v6:Value)(wr:World):Prop:=∃(j:Nat) (kd:Int) (p:Option Addr) (c:Nat) (ys:List BlL),j≤l.length∧v6=.int .i64 j∧Hid (0<j→kd=3)∧Hid (ys=(l.take j).map lineL)∧Hid (RkAt wr w2 gb kd p c ys)
def FrRel(w2:World)(gb:Nat)(R:List (Nat × Nat))(l:List Nat)(f:Nat)(v6:Value)(wr:World):Prop:=∃(j:Nat) (p:Option Addr) (c:Nat) (ys:List BlL),j≤l.length∧v6=.int .i64 j∧Hid (bareL ys=((headsM R l j).map (sideM R l)).map fun s=>.mk 4 0 (blkM R f (thingsM l s)))∧Hid (RkAt wr w2 gb 2 p c ys)
def ThRelR(wr:World)(l s:List Nat)(v8 v9:Value)(wq:World):Prop:=∃(q:Nat) (p:Option Addr) (c:Nat),q≤s.length∧v9=.int .i64 q∧v8=.slice p (thingsM l (s.take q)).length c∧Hid (GOwn encI 1 3 wq wr.heap.size (.slice p (thingsM l (s.take q)).length c) (thingsM l (s.take q)))∧Below wr.heap.size wr wq
attribute [local irreducible] sidesM pieceM blkM thingsM sideM headsM
set_option maxHeartbeats 8000000 in
set_option maxRecDepth 100000 in
theorem rpiece_knot(n:Nat)(rv:Value)(R:List (Nat × Nat))(F:List Nat→List BlkM)(v:Value)(l:List Nat)(w:World)(h:RRel w n rv R)(hv:GRow encI 1 w v l)(hn:l.length≤1000000)(h0:0<l.length)(hl1:l.length≠1)(hk:(sidesM R l).length=1) :
  Calls Tryz.prog 123 #[rrV n rv,v] w (RPcRes w (pieceM R F l)):=by
 obtain⟨ra,rc,rfl,r1,r2,_⟩:=prow_at h.row
 unfold maxLen at r2
 obtain⟨a,cap,rfl,h1,h2,hc⟩:=irow_at hv
 unfold maxLen at h2
 obtain⟨b,off,rfl,sb,hcb⟩:=hc.resolve_left (by omega)
 have HC:=Lh hcb
 have HV:=Lh hv
 have HH:=Lh h
 have g1:((l.length:Int) == 1)=false:=by rw [beq_eq_false_iff_ne];omega
 have HL0:Hid (0<l.length):=Lh h0
 have H1:=Lh hl1
 have HP:=Lh (piece_knot (F:=F) hl1 hk)
 have HKn:=Lh hk
 clear hv hcb hc h hl1 hk
 go_enter Tryz.func123,Tryz.ntmps123
 go_upto_region 1 with(fail)
 have HA0:=Lh (arrT_new w [.int .i64 n,.slice ra R.length rc] 50)
 have HB0:=Lh (bnew (w:=w) (.cells #[.int .i64 n,.slice ra R.length rc] 50))
 have HS0:Hid ((w.alloc (.cells #[.int .i64 n,.slice ra R.length rc] 50)).heap.size=w.heap.size+1):=Lh (by simp)
 have HS1:Hid (((w.alloc (.cells #[.int .i64 n,.slice ra R.length rc] 50)).alloc (.cells #[.int .i64 0,.int .i64 0,.slice none 0 0] 149)).heap.size=(w.alloc (.cells #[.int .i64 n,.slice ra R.length rc] 50)).heap.size+1):=Lh (by simp)
 generalize hw0:w.alloc (.cells #[.int .i64 n,.slice ra R.length rc] 50)=w0 at *
 clear hw0
 have HA:=Lh (arrT_new w0 [.int .i64 0,.int .i64 0,.slice none 0 0] 149)
 have HB1:=Lh (bnew (w:=w0) (.cells #[.int .i64 0,.int .i64 0,.slice none 0 0] 149))
 generalize hw1:w0.alloc (.cells #[.int .i64 0,.int .i64 0,.slice none 0 0] 149)=w1 at *
 clear hw1
 have HGr:=Lh (HA0.out.over HB1.out)
 have HBw:=Lh (bov HB0.out (by have:=HS0.out;omega) HB1.out)
 have hs0:=HS0.out
 have hs1:=HS1.out
 clear HA0 HB0 HB1 HS0 HS1
 try rw [← hs0]
 generalize hgz:w0.heap.size=gz at *
 generalize hgR:w.heap.size=gR at *
 have HGR:=Lh hgR
 have HZ1:Hid (w1.heap.size=gz+1):=Lh hs1
 have HZ0:Hid (gz=gR+1):=Lh hs0
 clear hs0 hs1 hgz hgR
 go_upto_region 4 with(fail)
 have HBx:=Lh (arrT_new w1 [.int .i64 2,.int .i64 0,.slice none 0 0] 149)
 have HN1:=Lh (bnew (w:=w1) (.cells #[.int .i64 2,.int .i64 0,.slice none 0 0] 149))
 have HS2:Hid ((w1.alloc (.cells #[.int .i64 2,.int .i64 0,.slice none 0 0] 149)).heap.size=w1.heap.size+1):=Lh (by simp)
 generalize hw2:w1.alloc (.cells #[.int .i64 2,.int .i64 0,.slice none 0 0] 149)=w2 at *
 clear hw2
 generalize hgb:w1.heap.size=gb at *
 have HGB:=Lh hgb
 have HZ2:Hid (w2.heap.size=gb+1):=HS2
 have hzl:gb<w2.heap.size:=by have:=HZ2.out;omega
 clear hgb
 have HF0:Hid (RkAt w2 w2 gb 2 none 0 []):=Lh ⟨HBx.out,bxr_nil _ _,World.grownBy.refl _ _⟩
 go_wp2_with fail
 go_loopw [6,7] (fun v6 _ wr=>KnRel w2 gb l v6 wr) (fun v6 _ _=>l.length - (intOf v6).toNat)
 case atStart=>exact⟨0,2,none,0,[],Nat.zero_le _,rfl,Lh (fun h=>absurd h (by omega)),Lh (by rw [List.take_zero];rfl),HF0⟩
 case round =>
  obtain⟨j,kd,p,c,ys,hj,rfl,HKd,HYs,HK⟩:=hrel
  rename World=>wr
  have HBr:Hid (Below w1.heap.size w1 wr):=Lh (by
   have h9:=HN1.out
   rw [HGB.out]
   exact h9.grown HK.out.world (by have:=HZ2.out;omega) (fun k hk=>by cases hk;exact Nat.le_refl _))
  have HBz:Hid (Below gR w wr):=Lh (bov HBw.out (by have:=HGB.out;have:=HZ1.out;have:=HZ0.out;omega) HBr.out)
  have HGq:=Lh ((HGr.out.over HBr.out).arr)
  have hwl:=HK.out.world.size
  by_cases hlt:j<l.length
  ·
   obtain⟨x,hx⟩:=gol hlt
   have HSu:=Lh (sm_succ hx)
   have HX:=Lh hx
   have HFull:=Lh (knot_side HKn.out hlt)
   have HN6:Hid (ys.length+1≤1099511627776):=Lh (by rw [HYs.out,List.length_map,List.length_take];omega)
   have HSi:=Lh (rside_any n (.slice ra R.length rc) R _ l j _ (HH.out.over (by rw [HGR.out];exact HBz.out)) (HV.out.over (by rw [HGR.out];exact HBz.out)) hn hlt)
   unfold rrV at HSi
   have g0:=HGq.out.k 0 rfl
   have g1:=HGq.out.k 1 rfl
   have sg:=HGq.out.lt
   clear hx
   go_wp2_with fail
   with_reducible refine(HSi.out).mono ?_
   rintro e wc ⟨sv,rfl,hos,hbs⟩
   obtain⟨ps,cs',es,_,_,_⟩:=irow_at hos.row
   rw [HFull.out] at es
   subst es
   have HBc:=Lh hbs
   have HKc:=Lh (HK.out.over HBc.out)
   have HKa:=Lh HKc.out.box.arr
   have HKk:=Lh (HKc.out.kind hzl 3)
   have HBk:Hid (Below gR w (wc.setCell ⟨gb,0,none⟩ (.int .i64 3))):=Lh ((bov HBz.out (by have:=HBz.out.size;have:=HGR.out;omega) HBc.out).setCell (by show gR≤gb;have:=HGB.out;have:=HZ1.out;have:=HZ0.out;omega) _)
   have HZk:Hid (wc.heap.size≤(wc.setCell ⟨gb,0,none⟩ (.int .i64 3)).heap.size):=Lh (by simp [World.setCell])
   clear hos hbs g0 g1 sg
   have k0:=HKa.out.k 0 rfl
   have k1:=HKa.out.k 1 rfl
   have k2:=HKa.out.k 2 rfl
   have sk:=HKa.out.lt
   have f0:=HKa.out.free 0
   go_upto_region 10 with(fail)
   generalize hwk:wc.setCell ⟨gb,0,none⟩ (.int .i64 3)=wk at *
   clear hwk k0 k1 k2 sk f0
   obtain⟨sl,x0⟩:=HC.out j x HX.out wk HBk.out
   have HKb:=Lh HKk.out.box.arr
   have k0:=HKb.out.k 0 rfl
   have k1:=HKb.out.k 1 rfl
   have k2:=HKb.out.k 2 rfl
   have sk:=HKb.out.lt
   have hcur:Below wk.heap.size wk wk.drew:=(Below.refl _ _).drew
   refine wlex (C:=IsOver wk) 8 [] (by kernel_rfl) (by kernel_rfl) (iov hcur) ?_
   simp only [Tsc,Tz,Dsc,Dz]
   repeat(first|(refine lxs rfl rfl ?_;simp only [Act.put,Sib,Scs,Scz])|(refine lxo rfl ?_;go_big_quiet_step (fail);refine wpQuiet_nil ?_)|(refine lxl rfl ?_;go_wp2_with (first|(fail));refine⟨iov (by first|exact hcur|exact hcur.alloc hcur.size _),?_⟩))
   refine lxe ?_
   have HK5:=HKk
   have HO5:=Lh HK5.out.sub.own
   have hB6:w2.heap.size≤wk.heap.size:=Nat.le_trans hwl (Nat.le_trans HBc.out.size HZk.out)
   have hlo5:∀ b,(Value.slice p ys.length c).ownBlock=some b→b<wk.heap.size:=fun b hb=>gown_size HKk.out.sub.own hb
   have hwl:=hB6
   clear hcur
   go_wp2_with (at_builtin;(first|refine wpList_append_newK slBlkR rfl _ _ rfl w2.heap.size #[.int .i64 1,.int .i64 x,.slice none 0 0] 149 (drf _) 1 _ _ _ HO5.out rfl rfl rfl rfl HN6.out (by decide) hB6 ?_|refine wpList_append_newK slBlkR rfl _ _ rfl w2.heap.size #[.int .i64 1,.int .i64 x,.slice none 0 0] 149 (ddw _) 1 _ _ _ HO5.out rfl rfl rfl rfl HN6.out (by decide) hB6 ?_);intro v6 w6 ho6 hg6 hv6;(obtain⟨p6,c6,e6,_,_,_⟩:=(GOwn.row (GOwn.snoc (x:=lineL x) ho6)).at encBl_len);(have e7:v6=.slice p6 (ys.length+1) c6:=by rw [e6,List.length_append];rfl);clear e6;subst e7;have HST:=Lh (HK5.out.step (x:=lineL x) (lineL_in _ _ x) hlo5 hwl hzl ho6 hg6 hv6);have HB6:=Lh (ArrT.arr (HK5.out.box.kept hg6 (fun e=>by have:=gown_low HK5.out.sub.own e.symm;omega)));have t2:=HB6.out.k 2 rfl;have t3:=HB6.out.free 2;have st:=HB6.out.lt;clear ho6 hg6 hv6)
   go_roundw
   case rel=>exact⟨j+1,3,p6,c6,ys++[lineL x],hlt,by go_num,Lh (fun _=>rfl),Lh (by rw [HYs.out,HSu.out]),HST⟩
   case measure=>simp [intOf];omega
  ·
   obtain rfl:j=l.length:=by omega
   obtain rfl:=HKd.out HL0.out
   have HAr:=Lh ((HA.out.over HBr.out).arr)
   have HBA:=Lh HK.out.box.arr
   have hzg:gz<w2.heap.size:=by have:=HZ2.out;have:=HGB.out;have:=HZ1.out;omega
   have hzw:w.heap.size≤w2.heap.size:=by have:=HGR.out;have:=HZ0.out;omega
   have HPe:Hid (pieceM R F l=.mk 3 0 (bareL ys)):=Lh (by rw [HP.out,HYs.out,List.take_length,lines_bare])
   have hgz:gR≤gz:=by have:=HZ0.out;omega
   have y0:=HAr.out.k 0 rfl
   have y1:=HAr.out.k 1 rfl
   have y2:=HAr.out.k 2 rfl
   have sy:=HAr.out.lt
   have b0:=HBA.out.k 0 rfl
   have b1:=HBA.out.k 1 rfl
   have b2:=HBA.out.k 2 rfl
   have sb:=HBA.out.lt
   have k0:=HAr.out.free 0
   have k1:=HAr.out.free 1
   have k2:=HAr.out.free 2
   go_wp2_with fail
   refine bodyPost_ret (v:=.agg #[.int .i64 3,.int .i64 0,.slice p ys.length c]) (results_arr rowBlkR rfl (((HAr.out.set 0 _).set 1 _).set 2 _) rfl rfl) rfl ?_
   refine⟨3,0,.slice p ys.length c,ys,rfl,?_,?_,?_⟩
   ·
    rw [HPe.out];unfold bareB;rfl
   ·
    exact pc_store (gz:=gz) (HK.out.sub.block 3 0) (gtr (gtr (gsc wr 0 _) (gsc _ 1 _)) (gsc _ 2 _)) hzg hzw
   ·
    rw [HGR.out];exact(((HBz.out.setCell (p:=⟨gz,0,none⟩) hgz (.int .i64 3)).setCell (p:=⟨gz,1,none⟩) hgz (.int .i64 0)).setCell (p:=⟨gz,2,none⟩) hgz (.slice p ys.length c))
set_option maxHeartbeats 8000000 in
set_option maxRecDepth 100000 in
theorem rpiece_fork(f n:Nat)(rv:Value)(R:List (Nat × Nat))(v:Value)(l:List Nat)(w:World)(h:RRel w n rv R)(hv:GRow encI 1 w v l)(hn:l.length≤1000000)(h0:0<l.length)(hl1:l.length≠1)(hk:(sidesM R l).length≠1)(hf:l.length≤f)
  (hOf:∀(t:List Nat) (tv u:Value) (W:World),t.length<f→t.length≤1000000→RRel W n u R→GRow encI 1 W tv t→Calls Tryz.prog 75 #[rrV n u,tv] W (ROfRes W (blkM R f t))) :
  Calls Tryz.prog 123 #[rrV n rv,v] w (RPcRes w (pieceM R (blkM R f) l)):=by
 obtain⟨ra,rc,rfl,r1,r2,_⟩:=prow_at h.row
 unfold maxLen at r2
 obtain⟨a,cap,rfl,h1,h2,hc⟩:=irow_at hv
 unfold maxLen at h2
 obtain⟨b,off,rfl,sb,hcb⟩:=hc.resolve_left (by omega)
 have HC:=Lh hcb
 have HV:=Lh hv
 have HH:=Lh h
 have g1:((l.length:Int) == 1)=false:=by rw [beq_eq_false_iff_ne];omega
 have HL0:Hid (0<l.length):=Lh h0
 have H1:=Lh hl1
 have HP:=Lh (piece_fork (F:=blkM R f) hl1 hk)
 have HFk:=Lh hk
 have HOf:=Lh hOf
 have HF:=Lh hf
 clear hv hcb hc h hl1 hk hOf hf
 go_enter Tryz.func123,Tryz.ntmps123
 go_upto_region 1 with(fail)
 have HA0:=Lh (arrT_new w [.int .i64 n,.slice ra R.length rc] 50)
 have HB0:=Lh (bnew (w:=w) (.cells #[.int .i64 n,.slice ra R.length rc] 50))
 have HS0:Hid ((w.alloc (.cells #[.int .i64 n,.slice ra R.length rc] 50)).heap.size=w.heap.size+1):=Lh (by simp)
 have HS1:Hid (((w.alloc (.cells #[.int .i64 n,.slice ra R.length rc] 50)).alloc (.cells #[.int .i64 0,.int .i64 0,.slice none 0 0] 149)).heap.size=(w.alloc (.cells #[.int .i64 n,.slice ra R.length rc] 50)).heap.size+1):=Lh (by simp)
 generalize hw0:w.alloc (.cells #[.int .i64 n,.slice ra R.length rc] 50)=w0 at *
 clear hw0
 have HA:=Lh (arrT_new w0 [.int .i64 0,.int .i64 0,.slice none 0 0] 149)
 have HB1:=Lh (bnew (w:=w0) (.cells #[.int .i64 0,.int .i64 0,.slice none 0 0] 149))
 generalize hw1:w0.alloc (.cells #[.int .i64 0,.int .i64 0,.slice none 0 0] 149)=w1 at *
 clear hw1
 have HGr:=Lh (HA0.out.over HB1.out)
 have HBw:=Lh (bov HB0.out (by have:=HS0.out;omega) HB1.out)
 have hs0:=HS0.out
 have hs1:=HS1.out
 clear HA0 HB0 HB1 HS0 HS1
 try rw [← hs0]
 generalize hgz:w0.heap.size=gz at *
 generalize hgR:w.heap.size=gR at *
 have HGR:=Lh hgR
 have HZ1:Hid (w1.heap.size=gz+1):=Lh hs1
 have HZ0:Hid (gz=gR+1):=Lh hs0
 clear hs0 hs1 hgz hgR
 go_upto_region 4 with(fail)
 have HBx:=Lh (arrT_new w1 [.int .i64 2,.int .i64 0,.slice none 0 0] 149)
 have HN1:=Lh (bnew (w:=w1) (.cells #[.int .i64 2,.int .i64 0,.slice none 0 0] 149))
 have HS2:Hid ((w1.alloc (.cells #[.int .i64 2,.int .i64 0,.slice none 0 0] 149)).heap.size=w1.heap.size+1):=Lh (by simp)
 generalize hw2:w1.alloc (.cells #[.int .i64 2,.int .i64 0,.slice none 0 0] 149)=w2 at *
 clear hw2
 generalize hgb:w1.heap.size=gb at *
 have HGB:=Lh hgb
 have HZ2:Hid (w2.heap.size=gb+1):=HS2
 have hzl:gb<w2.heap.size:=by have:=HZ2.out;omega
 clear hgb
 have HF0:Hid (RkAt w2 w2 gb 2 none 0 []):=Lh ⟨HBx.out,bxr_nil _ _,World.grownBy.refl _ _⟩
 go_wp2_with fail
 go_loopw [6,7,8,9] (fun v6 _ _ _ wr=>FrRel w2 gb R l f v6 wr) (fun v6 _ _ _ _=>l.length - (intOf v6).toNat)
 case atStart=>exact⟨0,none,0,[],Nat.zero_le _,rfl,Lh (by unfold headsM;rfl),HF0⟩
 case round =>
  obtain⟨j,p,c,ys,hj,rfl,HBa,HK⟩:=hrel
  rename World=>wr
  have HBr:Hid (Below w1.heap.size w1 wr):=Lh (by
   have h9:=HN1.out
   rw [HGB.out]
   exact h9.grown HK.out.world (by have:=HZ2.out;omega) (fun k hk=>by cases hk;exact Nat.le_refl _))
  have HBz:Hid (Below gR w wr):=Lh (bov HBw.out (by have:=HGB.out;have:=HZ1.out;have:=HZ0.out;omega) HBr.out)
  have HGq:=Lh ((HGr.out.over HBr.out).arr)
  have hwl:=HK.out.world.size
  by_cases hlt:j<l.length
  ·
   have HFull:=Lh (fork_side HFk.out hlt)
   have HFew:=Lh (side_few (R:=R) (l:=l) (i:=j))
   have HPos:=Lh (side_some (R:=R) hlt)
   have HNm:Hid (∀ u,u∈sideM R l j→u<l.length):=Lh fun u hu=>(mem_sideM.1 hu).right
   have HFi:Hid (∀ x,(sideM R l j)[0]? = some x→(x=j↔headB R l j=true)):=Lh fun x hx=>side_first hlt hx
   have HHs:=Lh (heads_succ R l j)
   have HSi:=Lh (rside_any n (.slice ra R.length rc) R _ l j _ (HH.out.over (by rw [HGR.out];exact HBz.out)) (HV.out.over (by rw [HGR.out];exact HBz.out)) hn hlt)
   unfold rrV at HSi
   have g0:=HGq.out.k 0 rfl
   have g1:=HGq.out.k 1 rfl
   have sg:=HGq.out.lt
   go_wp2_with fail
   with_reducible refine(HSi.out).mono ?_
   rintro e wc ⟨sv,rfl,hos,hbs⟩
   obtain⟨s,hs⟩:∃ s,s=sideM R l j:=⟨_,rfl⟩
   have HS:=Lh hs
   rw [← hs] at hos
   obtain⟨ps,cs',rfl,z1,z2,hcs⟩:=irow_at hos.row
   unfold maxLen at z2
   have g2:((s.length:Int) == (l.length:Int))=false:=by rw [beq_eq_false_iff_ne];have:=HFull.out;rw [← hs] at this;omega
   have hsl:s.length<l.length:=by have:=HFull.out;have:=HFew.out;rw [← hs] at *;omega
   have hsp:0<s.length:=by have:=HPos.out;rw [← hs] at this;exact this
   obtain⟨bs,os,rfl,sbs,hcs2⟩:=hcs.resolve_left (by omega)
   obtain⟨x,hx⟩:=gol hsp
   have HBc:=Lh hbs
   have HBcz:Hid (Below gR w wc):=Lh (bov HBz.out (by have:=HBz.out.size;have:=HGR.out;omega) HBc.out)
   have HKc:=Lh (HK.out.over HBc.out)
   have HCS:=Lh hcs2
   obtain⟨sx,y0'⟩:=hcs2 0 x hx wc (Below.refl _ _)
   have y0:wc.cell? ⟨bs,os,none⟩=some (.int .i64 x):=y0'
   have HX:=Lh (HFi.out x (by rw [← hs];exact hx))
   have hxl:x<l.length:=HNm.out x (by rw [← hs];exact List.mem_of_getElem? hx)
   have hwc:w2.heap.size≤wc.heap.size:=Nat.le_trans hwl HBc.out.size
   clear hos hbs g0 g1 sg hs y0' hcs2 hcs hx
   cases hh:headB R l j with
   | false =>
    have hne:x≠j:=fun e=>by rw [HX.out.1 e] at hh;cases hh
    have g3:((x:Int) != (j:Int))=true:=by rw [bne_iff_ne];omega
    have HBa2:Hid (bareL ys=((headsM R l (j+1)).map (sideM R l)).map fun s=>.mk 4 0 (blkM R f (thingsM l s))):=Lh (by rw [HHs.out,hh];simpa using HBa.out)
    clear hh hne
    go_wp2_with fail
    go_roundw
    case rel=>exact⟨j+1,p,c,ys,hlt,by go_num,HBa2,HKc⟩
    case measure=>simp [intOf];omega
   | true =>
    obtain rfl:x=j:=HX.out.2 hh
    have HBs:Hid (((headsM R l (x+1)).map (sideM R l)).map (fun s=>BlkM.mk 4 0 (blkM R f (thingsM l s)))=((headsM R l x).map (sideM R l)).map (fun s=>.mk 4 0 (blkM R f (thingsM l s)))++[.mk 4 0 (blkM R f (thingsM l s))]):=Lh (by rw [HHs.out,hh,HS.out];simp)
    have HN6:Hid (ys.length+1≤1099511627776):=Lh (by
     have h9:=congrArg List.length HBa.out
     rw [bareL_map,List.length_map,List.length_map,List.length_map] at h9
     have:=heads_few R l x
     omega)
    clear hh
    go_wp2_with fail
    go_loopw [8,9] (fun v8 v9 wq=>ThRelR wc l s v8 v9 wq) (fun _ v9 _=>s.length - (intOf v9).toNat)
    case atStart=>exact⟨0,none,0,Nat.zero_le _,rfl,by rw [List.take_zero,things_nil];rfl,Lh (by rw [List.take_zero,things_nil];exact gown_nil _ _),Below.refl _ _⟩
    case round =>
     obtain⟨q,p9,c9,hq,rfl,rfl,HT,hbq⟩:=hrel
     rename World=>wq
     have HBq:=Lh hbq
     by_cases hlt2:q<s.length
     ·
      obtain⟨u,hu⟩:=gol hlt2
      obtain⟨su,u0⟩:=HCS.out q u hu wq hbq
      have hul:=HNm.out u (by rw [← HS.out];exact List.mem_of_getElem? hu)
      obtain⟨y,hy⟩:=gol hul
      obtain⟨sy2,l0⟩:=HC.out u y hy wq (bov HBcz.out (by have:=HBcz.out.size;have:=HGR.out;omega) hbq)
      have HTs:=Lh (things_step hu hy)
      have hN:(thingsM l (s.take q)).length+1≤1099511627776:=by unfold thingsM;rw [List.length_map,List.length_take];omega
      have hB3:=hbq.size
      clear hu hy y0 sx
      go_wp2_with (at_builtin;refine apD slIntI rfl _ _ rfl wc.heap.size _ _ (drf _) 1 _ _ _ HT.out rfl rfl rfl rfl hN (by decide) hB3 ?_;intro v9 w9 ho9 hg9)
      obtain⟨p8,c8,e8,hO8⟩:=iown_more ho9
      subst e8
      go_roundw
      case rel=>exact⟨q+1,p8,c8,hlt2,by go_num,by rw [HTs.out],Lh (by rw [HTs.out];exact hO8),bgr HBq.out hB3 HT.out hg9⟩
      case measure=>simp [intOf];omega
     ·
      obtain rfl:q=s.length:=by omega
      rw [List.take_length] at HT
      rw [List.take_length]
      have HKq:=Lh (HKc.out.over hbq)
      have HKb:=Lh HKq.out.box.arr
      have hbw:Below gR w wq:=bov HBcz.out (by have:=HBcz.out.size;have:=HGR.out;omega) hbq
      have HGp:=Lh ((HGr.out.over (bov HBr.out HBr.out.size (bov HBc.out HBc.out.size hbq))).arr)
      have HOc:Hid (∀ W,Below wq.heap.size wq W→Calls Tryz.prog 75 #[.agg #[.int .i64 n,.slice ra R.length rc],.slice p9 (thingsM l s).length c9] W (ROfRes W (blkM R f (thingsM l s)))):=Lh fun W hW=>HOf.out _ _ _ W (by unfold thingsM;rw [List.length_map];have:=HF.out;omega) (by unfold thingsM;rw [List.length_map];omega) ((HH.out.over (by rw [HGR.out];exact hbw)).over hW) (HT.out.over hW).row
      have hwq:w2.heap.size≤wq.heap.size:=Nat.le_trans hwc hbq.size
      clear hbw y0 sx
      have b0:=HKb.out.k 0 rfl
      have b1:=HKb.out.k 1 rfl
      have b2:=HKb.out.k 2 rfl
      have sb:=HKb.out.lt
      have g0:=HGp.out.k 0 rfl
      have g1:=HGp.out.k 1 rfl
      have sg:=HGp.out.lt
      go_upto_region 17 with(fail)
      have hcur:Below wq.heap.size wq wq.drew:=(Below.refl _ _).drew
      refine wlex (C:=IsOver wq) 7 [] (by kernel_rfl) (by kernel_rfl) (iov hcur) ?_
      simp only [Tsc,Tz,Dsc,Dz]
      repeat(first|(refine lxs rfl rfl ?_;simp only [Act.put,Sib,Scs,Scz])|(refine lxo rfl ?_;go_big_quiet_step (fail);refine wpQuiet_nil ?_)|(refine lxl rfl ?_;go_wp2_with (first|(go_at_call 75;(with_reducible refine(HOc.out _ hcur).mono ?_);rintro e w5 ⟨v5,ys5,rfl,hx5,hr5,hb5⟩;(obtain⟨p5,c5,e5,_,_,_⟩:=hx5.own.row.at encBl_len);subst e5;have HX5:Hid (BXR w5 wq.heap.size (.slice p5 ys5.length c5) ys5):=Lh hx5;have HR5:=Lh hr5;replace hcur:=bov hcur hcur.size hb5;clear hx5 hr5 hb5));refine⟨iov (by first|exact hcur|exact hcur.alloc hcur.size _),?_⟩))
      refine lxe ?_
      have HK5:=Lh (HKq.out.over hcur)
      have HO5:=Lh HK5.out.sub.own
      have hB6:w2.heap.size≤w5.heap.size:=Nat.le_trans hwq hcur.size
      have hlo5:∀ b,(Value.slice p ys.length c).ownBlock=some b→b<wq.heap.size:=fun b hb=>gown_size HKq.out.sub.own hb
      have hwl:=hwq
      clear hcur
      go_wp2_with (at_builtin;(first|refine wpList_append_newK slBlkR rfl _ _ rfl w2.heap.size #[.int .i64 4,.int .i64 0,.slice p5 ys5.length c5] 149 (drf _) 1 _ _ _ HO5.out rfl rfl rfl rfl HN6.out (by decide) hB6 ?_|refine wpList_append_newK slBlkR rfl _ _ rfl w2.heap.size #[.int .i64 4,.int .i64 0,.slice p5 ys5.length c5] 149 (ddw _) 1 _ _ _ HO5.out rfl rfl rfl rfl HN6.out (by decide) hB6 ?_);intro v6 w6 ho6 hg6 hv6;(obtain⟨p6,c6,e6,_,_,_⟩:=(GOwn.row (GOwn.snoc (x:=BlL.mk 4 0 (.slice p5 ys5.length c5) ys5) ho6)).at encBl_len);(have e7:v6=.slice p6 (ys.length+1) c6:=by rw [e6,List.length_append];rfl);clear e6;subst e7;have HST:=Lh (HK5.out.step (x:=BlL.mk 4 0 (.slice p5 ys5.length c5) ys5) (HX5.out.block 4 0) hlo5 hwl hzl ho6 hg6 hv6);have HB6:=Lh (ArrT.arr (HK5.out.box.kept hg6 (fun e=>by have:=gown_low HK5.out.sub.own e.symm;omega)));have t2:=HB6.out.k 2 rfl;have t3:=HB6.out.free 2;have st:=HB6.out.lt;clear ho6 hg6 hv6)
      go_roundw
      case rel=>exact⟨x+1,p6,c6,_,hlt,by go_num,Lh (by rw [bareL_snoc,HBa.out,HBs.out];congr 2;unfold bareB;rw [HR5.out]),HST⟩
      case measure=>simp [intOf];omega
  ·
   obtain rfl:j=l.length:=by omega
   have HAr:=Lh ((HA.out.over HBr.out).arr)
   have HBA:=Lh HK.out.box.arr
   have hzg:gz<w2.heap.size:=by have:=HZ2.out;have:=HGB.out;have:=HZ1.out;omega
   have hzw:w.heap.size≤w2.heap.size:=by have:=HGR.out;have:=HZ0.out;omega
   have HPe:Hid (pieceM R (blkM R f) l=.mk 2 0 (bareL ys)):=Lh (by rw [HP.out,HBa.out];unfold sidesM;rfl)
   have hgz:gR≤gz:=by have:=HZ0.out;omega
   have y0:=HAr.out.k 0 rfl
   have y1:=HAr.out.k 1 rfl
   have y2:=HAr.out.k 2 rfl
   have sy:=HAr.out.lt
   have b0:=HBA.out.k 0 rfl
   have b1:=HBA.out.k 1 rfl
   have b2:=HBA.out.k 2 rfl
   have sb:=HBA.out.lt
   have k0:=HAr.out.free 0
   have k1:=HAr.out.free 1
   have k2:=HAr.out.free 2
   go_wp2_with fail
   refine bodyPost_ret (v:=.agg #[.int .i64 2,.int .i64 0,.slice p ys.length c]) (results_arr rowBlkR rfl (((HAr.out.set 0 _).set 1 _).set 2 _) rfl rfl) rfl ?_
   refine⟨2,0,.slice p ys.length c,ys,rfl,?_,?_,?_⟩
   ·
    rw [HPe.out];unfold bareB;rfl
   ·
    exact pc_store (gz:=gz) (HK.out.sub.block 2 0) (gtr (gtr (gsc wr 0 _) (gsc _ 1 _)) (gsc _ 2 _)) hzg hzw
   ·
    rw [HGR.out];exact(((HBz.out.setCell (p:=⟨gz,0,none⟩) hgz (.int .i64 2)).setCell (p:=⟨gz,1,none⟩) hgz (.int .i64 0)).setCell (p:=⟨gz,2,none⟩) hgz (.slice p ys.length c))
end Go.Proofs.YtllcipobiengiaaGreat
namespace Go.Proofs.YtllcipobiengiaaGreat
open Go Go.RowKit

theorem rpiece_any(f n:Nat)(rv:Value)(R:List (Nat × Nat))(v:Value)(l:List Nat)(w:World)(h:RRel w n rv R)(hv:GRow encI 1 w v l)(hn:l.length≤1000000)(h0:0<l.length)(hf:l.length≤f)
  (hOf:∀(t:List Nat) (tv u:Value) (W:World),t.length<f→t.length≤1000000→RRel W n u R→GRow encI 1 W tv t→Calls Tryz.prog 75 #[rrV n u,tv] W (ROfRes W (blkM R f t))) :
  Calls Tryz.prog 123 #[rrV n rv,v] w (RPcRes w (pieceM R (blkM R f) l)):=by
 by_cases h1:l.length=1
 ·
  obtain⟨i,rfl⟩:=List.length_eq_one_iff.1 h1
  exact rpiece_one n rv R _ v i w h hv
 ·
  by_cases h2:(sidesM R l).length=1
  ·
   exact rpiece_knot n rv R _ v l w h hv hn h0 h1 h2
  ·
   exact rpiece_fork f n rv R v l w h hv hn h0 h1 h2 hf hOf
theorem of_snocR{w w3 w6 wr:World}{v v6:Value}{xs ys3:List BlL}{k3 n3:Int}{s3:Value}{lo:Nat}(h:BXR w3 w.heap.size v xs)(hx:BIn (fun b=>lo≤b∧b<w3.heap.size) w3 (.mk k3 n3 s3 ys3))(hlo:wr.heap.size≤lo)(hw:w.heap.size≤wr.heap.size)(hv:∀ b,v.ownBlock=some b→b<wr.heap.size)
  (ho:w6.ownsRow w.heap.size 149 3 v6 (xs.length+1) (xs.flatMap encBl++[.int .i64 k3,.int .i64 n3,s3])) (hg:w3.grownBy w6 v.ownBlock) (hk:v6.ownBlock=v.ownBlock∨∃ k,v6.ownBlock=some k∧w3.heap.size≤k):BXR w6 w.heap.size v6 (xs++[.mk k3 n3 s3 ys3]):=
 BXR.snoc h (BIn.weak hx fun b hb=>⟨hb.1,hb.2,fun e=>by have:=hv b e.symm;omega⟩) (by omega) (GOwn.snoc (x:=BlL.mk k3 n3 s3 ys3) ho) hg hk
def RoRel(w0:World)(R:List (Nat × Nat))(f:Nat)(l:List Nat)(v5 v6 v7:Value)(wr:World):Prop:=∃(i at':Nat) (xs:List BlL),1≤i∧i≤l.length+1∧v7=.int .i64 i∧v6=.int .i64 at'∧Hid (BXR wr w0.heap.size v5 xs)∧Hid (bareL xs=(piecesTo R l (i - 1)).1.map (pieceM R (blkM R f)))∧at'=(piecesTo R l (i - 1)).2∧Below w0.heap.size w0 wr
theorem pieces_yes1{R:List (Nat × Nat)}{l:List Nat}{i:Nat}(h1:1≤i)(h:i=l.length∨cutB R l i=true):piecesTo R l i=((piecesTo R l (i - 1)).1++[(l.take i).drop (piecesTo R l (i - 1)).2],i):=by
 obtain⟨k,rfl⟩:∃ k,i=k+1:=⟨i - 1,by omega⟩
 rw [Nat.add_sub_cancel];exact pieces_yes h
theorem pieces_no1{R:List (Nat × Nat)}{l:List Nat}{i:Nat}(h1:1≤i)(h:¬ (i=l.length∨cutB R l i=true)):piecesTo R l i=piecesTo R l (i - 1):=by
 obtain⟨k,rfl⟩:∃ k,i=k+1:=⟨i - 1,by omega⟩
 rw [Nat.add_sub_cancel];exact pieces_no h
attribute [local irreducible] piecesTo pieceM blkM cutB
set_option maxHeartbeats 8000000 in
set_option maxRecDepth 100000 in
theorem rof22_any(n:Nat)(R:List (Nat × Nat)):∀(f:Nat) (l:List Nat) (v rv:Value) (w:World),l.length<f→l.length≤1000000→RRel w n rv R→GRow encI 1 w v l →
  Calls Tryz.prog 75 #[rrV n rv,v] w (ROfRes w (blkM R f l))
 | 0,l,v,rv,w,hf,_,_,_=>absurd hf (Nat.not_lt_zero _)
 | f+1,l,v,rv,w,hf,hn,h,hv=>by
  have hih:=rof22_any n R f
  obtain⟨ra,rc,rfl,r1,r2,_⟩:=prow_at h.row
  unfold maxLen at r2
  obtain⟨a,cap,rfl,h1,h2,hc⟩:=irow_at hv
  unfold maxLen at h2
  have HV:=Lh hv
  have HH:=Lh h
  have HIH:Hid (∀(t:List Nat) (tv u:Value) (W:World),t.length<f→t.length≤1000000→RRel W n u R→GRow encI 1 W tv t→Calls Tryz.prog 75 #[rrV n u,tv] W (ROfRes W (blkM R f t))):=Lh fun t tv u W ht h0 h1 h2=>hih t tv u W ht h0 h1 h2
  have HBK:Hid (blkM R (f+1) l=(piecesTo R l l.length).1.map (pieceM R (blkM R f))):=Lh (by rw [blkM];rfl)
  have HG:=Lh (anw w #[.int .i64 n,.slice ra R.length rc] 50)
  have HB:=Lh (bnew (w:=w) (.cells #[.int .i64 n,.slice ra R.length rc] 50))
  clear hv h hih
  go_enter Tryz.func75,Tryz.ntmps75
  go_upto_region 1 with(fail)
  generalize hw0:w.alloc (.cells #[.int .i64 n,.slice ra R.length rc] 50)=w0 at *
  clear hw0
  go_wp2_with fail
  go_loopw [5,6,7] (fun v5 v6 v7 wr=>RoRel w0 R f l v5 v6 v7 wr) (fun _ _ v7 _=>l.length+1 - (intOf v7).toNat)
  case atStart=>exact⟨1,0,[],by omega,by omega,rfl,rfl,Lh (bxr_nil _ _),Lh (by rw [show 1 - 1=0 from rfl,pieces_zero];rfl),by rw [show 1 - 1=0 from rfl,pieces_zero],Below.refl _ _⟩
  case round =>
   obtain⟨i,at',xs,hi1,hi,rfl,rfl,HX,HBa,hat,hbl⟩:=hrel
   rename World=>wr
   have HBr:=Lh hbl
   have hai:at'<i:=by rw [hat];have:=pieces_at R l (i - 1);omega
   have HAt:=Lh hat.symm
   have HXl:Hid (xs.length+1≤1099511627776):=Lh (by
    have h9:=congrArg List.length HBa.out
    rw [bareL_map,List.length_map,List.length_map] at h9
    have:=pieces_few R l (i - 1)
    omega)
   have HBw:=Lh (bov HB.out HB.out.size hbl)
   clear hat hbl
   by_cases hlt:i≤l.length
   ·
    obtain⟨b,off,rfl,sb,hcb⟩:=hc.resolve_left (by omega)
    clear hcb
    by_cases hlast:i=l.length
    ·
     have HPt:=Lh (pieces_yes1 (R:=R) hi1 (.inl hlast))
     have g1:((i:Int) == (l.length:Int))=true:=by rw [beq_iff_eq];omega
     clear hlast
     have HSlr:Hid (GRow encI 1 wr (.slice (some ⟨b,off+at',none⟩) (i - at') (cap - at')) ((l.take i).drop at')):=Lh (row_part (HV.out.over HBw.out) hai hlt)
     have HPc:Hid (∀ W,Below wr.heap.size wr W→Calls Tryz.prog 123 #[.agg #[.int .i64 n,.slice ra R.length rc],.slice (some ⟨b,off+at',none⟩) (i - at') (cap - at')] W (RPcRes W (pieceM R (blkM R f) ((l.take i).drop at')))):=Lh fun W hW=>rpiece_any f n _ R _ _ W ((HH.out.over HBw.out).over hW) (HSlr.out.over hW) (by rw [List.length_drop,List.length_take];omega) (by rw [List.length_drop,List.length_take];omega) (by rw [List.length_drop,List.length_take];omega) HIH.out
     have HGq:=Lh (HG.out.over HBr.out)
     have HXq:=Lh (HX.out.over (Below.refl _ _))
     have q0:=HGq.out.k 0 rfl
     have q1:=HGq.out.k 1 rfl
     have sq:=HGq.out.lt
     have sB:b<wr.heap.size:=by have:=(HBr.out).size;have:=HB.out.size;omega
     go_upto_region 7 with(fail)
     have hcur:Below wr.heap.size wr wr.drew:=(Below.refl _ _).drew
     refine wlex (C:=IsOver wr) 8 [] (by kernel_rfl) (by kernel_rfl) (iov hcur) ?_
     simp only [Tsc,Tz,Dsc,Dz]
     repeat(first|(refine lxs rfl rfl ?_;simp only [Act.put,Sib,Scs,Scz])|(refine lxo rfl ?_;go_big_quiet_step (fail);refine wpQuiet_nil ?_)|(refine lxl rfl ?_;go_wp2_with (first|(go_at_call 123;(with_reducible refine(HPc.out _ hcur).mono ?_);rintro e w3 ⟨k3,n3,s3,ys3,rfl,hb3,hi3,hbw3⟩;(obtain⟨p3,c3,e3,_,_,_⟩:=(bin_mk.1 hi3).1.at encBl_len);subst e3;have HB3:=Lh hb3;have HI3:=Lh hi3;replace hcur:=bov hcur hcur.size hbw3;clear hb3 hi3 hbw3));refine⟨iov (by first|exact hcur|exact hcur.alloc hcur.size _),?_⟩))
     refine lxe ?_
     have HX3:=Lh (HXq.out.over hcur)
     have HO3:=Lh HX3.out.own
     have HBw3:=Lh (bov (HBr.out) (HBr.out).size hcur)
     have hB3:=HBw3.out.size
     have hcs:=hcur.size
     have hN:=HXl.out
     clear hcur q0 q1 sq
     go_wp2_with (at_builtin;(first|refine wpList_append_newK slBlkR rfl _ _ rfl w0.heap.size #[.int .i64 k3,.int .i64 n3,.slice p3 ys3.length c3] 149 (drf _) 1 _ _ _ HO3.out rfl rfl rfl rfl hN (by decide) hB3 ?_|refine wpList_append_newK slBlkR rfl _ _ rfl w0.heap.size #[.int .i64 k3,.int .i64 n3,.slice p3 ys3.length c3] 149 (ddw _) 1 _ _ _ HO3.out rfl rfl rfl rfl hN (by decide) hB3 ?_);intro v6 w6 ho6 hg6 hv6)
     go_roundw
     case rel=>exact⟨i+1,i,xs++[.mk k3 n3 (.slice p3 ys3.length c3) ys3],by omega,by omega,by go_num,rfl,Lh (of_snocR (lo:=wr.heap.size) HX3.out (BIn.weak HI3.out fun b hb=>⟨by first|exact hb.1|(have:=hb.1;simpa using this),hb.2⟩) (Nat.le_refl _) (HBr.out).size (fun b hb=>gown_size HXq.out.own hb) ho6 hg6 hv6),Lh (by rw [bareL_snoc,HBa.out,HB3.out,Nat.add_sub_cancel,HPt.out,List.map_append,HAt.out];rfl),by rw [Nat.add_sub_cancel,HPt.out],bgr HBw3.out hB3 HO3.out hg6⟩
     case measure=>simp [intOf];omega
    ·
     have g1:((i:Int) == (l.length:Int))=false:=by rw [beq_eq_false_iff_ne];omega
     have HGr:=Lh (HG.out.over HBr.out)
     have g2:=HGr.out.k 0 rfl
     have g3:=HGr.out.k 1 rfl
     have sg:=HGr.out.lt
     have HCt:=Lh (rcut22_any n _ R _ l i wr (HH.out.over HBw.out) (HV.out.over HBw.out) (by omega))
     unfold rrV at HCt
     cases hcu:cutB R l i with
     | true =>
      rw [hcu] at HCt
      have HPt:=Lh (pieces_yes1 (R:=R) hi1 (.inr hcu))
      clear hcu
      go_wp2_with fail
      with_reducible refine(HCt.out).mono ?_
      rintro e w2 ⟨rfl,hb2⟩
      have HBr2:=Lh (bov HBr.out HBr.out.size hb2)
      have HBw2:=Lh (bov HBw.out HBw.out.size hb2)
      have HBq2:=Lh hb2
      clear hb2 g2 g3 sg
      have HSlr:Hid (GRow encI 1 w2 (.slice (some ⟨b,off+at',none⟩) (i - at') (cap - at')) ((l.take i).drop at')):=Lh (row_part (HV.out.over HBw2.out) hai hlt)
      have HPc:Hid (∀ W,Below w2.heap.size w2 W→Calls Tryz.prog 123 #[.agg #[.int .i64 n,.slice ra R.length rc],.slice (some ⟨b,off+at',none⟩) (i - at') (cap - at')] W (RPcRes W (pieceM R (blkM R f) ((l.take i).drop at')))):=Lh fun W hW=>rpiece_any f n _ R _ _ W ((HH.out.over HBw2.out).over hW) (HSlr.out.over hW) (by rw [List.length_drop,List.length_take];omega) (by rw [List.length_drop,List.length_take];omega) (by rw [List.length_drop,List.length_take];omega) HIH.out
      have HGq:=Lh (HG.out.over HBr2.out)
      have HXq:=Lh (HX.out.over HBq2.out)
      have q0:=HGq.out.k 0 rfl
      have q1:=HGq.out.k 1 rfl
      have sq:=HGq.out.lt
      have sB:b<w2.heap.size:=by have:=(HBr2.out).size;have:=HB.out.size;omega
      go_upto_region 7 with(fail)
      have hcur:Below w2.heap.size w2 w2.drew:=(Below.refl _ _).drew
      refine wlex (C:=IsOver w2) 8 [] (by kernel_rfl) (by kernel_rfl) (iov hcur) ?_
      simp only [Tsc,Tz,Dsc,Dz]
      repeat(first|(refine lxs rfl rfl ?_;simp only [Act.put,Sib,Scs,Scz])|(refine lxo rfl ?_;go_big_quiet_step (fail);refine wpQuiet_nil ?_)|(refine lxl rfl ?_;go_wp2_with (first|(go_at_call 123;(with_reducible refine(HPc.out _ hcur).mono ?_);rintro e w3 ⟨k3,n3,s3,ys3,rfl,hb3,hi3,hbw3⟩;(obtain⟨p3,c3,e3,_,_,_⟩:=(bin_mk.1 hi3).1.at encBl_len);subst e3;have HB3:=Lh hb3;have HI3:=Lh hi3;replace hcur:=bov hcur hcur.size hbw3;clear hb3 hi3 hbw3));refine⟨iov (by first|exact hcur|exact hcur.alloc hcur.size _),?_⟩))
      refine lxe ?_
      have HX3:=Lh (HXq.out.over hcur)
      have HO3:=Lh HX3.out.own
      have HBw3:=Lh (bov (HBr2.out) (HBr2.out).size hcur)
      have hB3:=HBw3.out.size
      have hcs:=hcur.size
      have hN:=HXl.out
      clear hcur q0 q1 sq
      go_wp2_with (at_builtin;(first|refine wpList_append_newK slBlkR rfl _ _ rfl w0.heap.size #[.int .i64 k3,.int .i64 n3,.slice p3 ys3.length c3] 149 (drf _) 1 _ _ _ HO3.out rfl rfl rfl rfl hN (by decide) hB3 ?_|refine wpList_append_newK slBlkR rfl _ _ rfl w0.heap.size #[.int .i64 k3,.int .i64 n3,.slice p3 ys3.length c3] 149 (ddw _) 1 _ _ _ HO3.out rfl rfl rfl rfl hN (by decide) hB3 ?_);intro v6 w6 ho6 hg6 hv6)
      go_roundw
      case rel=>exact⟨i+1,i,xs++[.mk k3 n3 (.slice p3 ys3.length c3) ys3],by omega,by omega,by go_num,rfl,Lh (of_snocR (lo:=w2.heap.size) HX3.out (BIn.weak HI3.out fun b hb=>⟨by first|exact hb.1|(have:=hb.1;simpa using this),hb.2⟩) (Nat.le_refl _) (HBr2.out).size (fun b hb=>gown_size HXq.out.own hb) ho6 hg6 hv6),Lh (by rw [bareL_snoc,HBa.out,HB3.out,Nat.add_sub_cancel,HPt.out,List.map_append,HAt.out];rfl),by rw [Nat.add_sub_cancel,HPt.out],bgr HBw3.out hB3 HO3.out hg6⟩
      case measure=>simp [intOf];omega
     | false =>
      rw [hcu] at HCt
      have HPt:=Lh (pieces_no1 (R:=R) hi1 (fun q=>q.elim hlast (fun q=>by rw [hcu] at q;cases q)))
      clear hcu
      go_wp2_with fail
      with_reducible refine(HCt.out).mono ?_
      rintro e w2 ⟨rfl,hb2⟩
      have HBr2:=Lh (bov HBr.out HBr.out.size hb2)
      have HX2:=Lh (HX.out.over hb2)
      clear hb2 g2 g3 sg
      go_wp2_with fail
      go_roundw
      case rel=>exact⟨i+1,at',xs,by omega,by omega,by go_num,rfl,HX2,Lh (by rw [Nat.add_sub_cancel,HPt.out];exact HBa.out),by rw [Nat.add_sub_cancel,HPt.out];exact HAt.out.symm,HBr2.out⟩
      case measure=>simp [intOf];omega
   ·
    obtain rfl:i=l.length+1:=by omega
    go_wp2_with fail
    go_ret
    exact⟨_,xs,rfl,HX.out.base HB.out.size,by rw [HBa.out,HBK.out,Nat.add_sub_cancel],HBw.out⟩
end Go.Proofs.YtllcipobiengiaaGreat
namespace Go.Proofs.YtllcipobiengiaaGreat
open Go Go.RowKit

attribute [local irreducible] oddL oddB bareL bareB
set_option maxHeartbeats 8000000 in
set_option maxRecDepth 100000 in
theorem rodd_any(A:Nat→Prop):∀(N:Nat) (v:Value) (xs:List BlL) (w:World),SizeOf.sizeOf xs<N→GRow encBl 3 w v xs→BIns A w xs→oddL (bareL xs)≤1000000 →
  Calls Tryz.prog 76 #[v] w fun e w'=>e=.returned (.int .i64 (oddL (bareL xs):Int))∧Below w.heap.size w w'
 | 0,v,xs,w,hs,_,_,_=>absurd hs (Nat.not_lt_zero _)
 | N+1,v,xs,w,hs,hv,hi,ho=>by
  have HIH:=Lh (rodd_any A N)
  obtain⟨a,cap,rfl,h1,h2,hc⟩:=hv.at encBl_len
  unfold maxLen at h2
  have HC:=Lh hc
  have HI:=Lh hi
  have HS:=Lh hs
  have HO:=Lh ho
  clear hv hi hc hs ho
  go_enter Tryz.func76,Tryz.ntmps76
  go_wp2_with fail
  go_loopw [3,4] (fun v3 v4 wr=>OddRel w xs v3 v4 wr) (fun _ v4 _=>xs.length - (intOf v4).toNat)
  case atStart=>exact⟨0,by omega,rfl,by rw [List.take_zero,bareL_nil,oddL_nil];rfl,Below.refl _ _⟩
  case round =>
   obtain⟨j,hj,rfl,rfl,hbl⟩:=hrel
   rename World=>wr
   have HB:=Lh hbl
   by_cases hlt:j<xs.length
   ·
    obtain⟨b,off,rfl,sb,hcb⟩:=HC.out.resolve_left (by omega)
    obtain⟨⟨kd,nm,sv,sub⟩,hx⟩:=gol hlt
    have hr:=hcb j _ hx wr hbl
    have sx:=hr.1
    have x0:wr.cell? ⟨b,off+j*3,none⟩=some (.int .i64 kd):=hr.2 0 _ rfl
    have x1:wr.cell? ⟨b,off+j*3+1,none⟩=some (.int .i64 nm):=hr.2 1 _ rfl
    have x2:wr.cell? ⟨b,off+j*3+2,none⟩=some sv:=hr.2 2 _ rfl
    have hm:=List.mem_of_getElem? hx
    have hin:=bin_mk.1 (bins_mem HI.out hm)
    obtain⟨a',cap',esv,_,_,_⟩:=hin.1.at encBl_len
    subst esv
    have HSub:=Lh hin.1
    have HSin:=Lh hin.2.2.2
    have HSz:Hid (SizeOf.sizeOf sub<N):=Lh (by have:=size_sub hm;have:=HS.out;omega)
    have hsu:=odd_succ hx
    have hle:=odd_le (xs:=xs) (j+1)
    have hot:=HO.out
    obtain⟨oj,hoj⟩:∃ oj,oddL (bareL (xs.take j))=oj:=⟨_,rfl⟩
    rw [hoj] at hsu
    rw [hoj]
    rw [show bareB (.mk kd nm (.slice a' sub.length cap') sub)=.mk kd nm (bareL sub) from by unfold bareB;rfl] at hsu
    clear hcb hx hr hin hm hoj
    by_cases k1:kd=1
    ·
     subst k1
     rw [odd_1] at hsu
     have HSu:Hid (oddL (bareL (xs.take (j+1)))=oj):=Lh (by omega)
     clear hsu hle hot
     go_wp2_with fail
     go_roundw
     case rel=>exact⟨j+1,hlt,by go_num,by rw [HSu.out],HB.out⟩
     case measure=>simp [intOf];omega
    ·
     obtain⟨ob,hob⟩:∃ ob,oddL (bareL sub)=ob:=⟨_,rfl⟩
     have HOb:=Lh hob
     by_cases k2:kd=2
     ·
      subst k2
      rw [odd_23 (.inl rfl),hob] at hsu
      have HSu:Hid (oddL (bareL (xs.take (j+1)))=oj+1+ob):=Lh (by omega)
      have hb1:oj+1+ob≤1000000:=by omega
      clear hsu hle hot hob k1
      go_wp2_with fail
      refine(HIH.out _ sub _ HSz.out (HSub.out.over HB.out) (HSin.out.over HB.out) (by rw [HOb.out];omega)).mono ?_
      rw [HOb.out]
      rintro e w2 ⟨rfl,hb2⟩
      have HB2:=Lh (bov HB.out HB.out.size hb2)
      clear hb2
      go_wp2_with fail
      go_roundw
      case rel=>exact⟨j+1,hlt,by go_num,by rw [HSu.out];go_num,HB2.out⟩
      case measure=>simp [intOf];omega
     ·
      by_cases k3:kd=3
      ·
       subst k3
       rw [odd_23 (.inr rfl),hob] at hsu
       have HSu:Hid (oddL (bareL (xs.take (j+1)))=oj+1+ob):=Lh (by omega)
       have hb1:oj+1+ob≤1000000:=by omega
       clear hsu hle hot hob k1 k2
       go_wp2_with fail
       refine(HIH.out _ sub _ HSz.out (HSub.out.over HB.out) (HSin.out.over HB.out) (by rw [HOb.out];omega)).mono ?_
       rw [HOb.out]
       rintro e w2 ⟨rfl,hb2⟩
       have HB2:=Lh (bov HB.out HB.out.size hb2)
       clear hb2
       go_wp2_with fail
       go_roundw
       case rel=>exact⟨j+1,hlt,by go_num,by rw [HSu.out];go_num,HB2.out⟩
       case measure=>simp [intOf];omega
      ·
       rw [odd_0 k1 (by omega),hob] at hsu
       have HSu:Hid (oddL (bareL (xs.take (j+1)))=oj+ob):=Lh (by omega)
       have hb1:oj+ob≤1000000:=by omega
       have g1:(kd == 1)=false:=by rw [beq_eq_false_iff_ne];exact k1
       have g1':(kd != 1)=true:=by rw [bne_iff_ne];exact k1
       have g2:(kd == 2)=false:=by rw [beq_eq_false_iff_ne];exact k2
       have g3:(kd == 3)=false:=by rw [beq_eq_false_iff_ne];exact k3
       clear hsu hle hot hob
       go_wp2_with fail
       refine(HIH.out _ sub _ HSz.out (HSub.out.over HB.out) (HSin.out.over HB.out) (by rw [HOb.out];omega)).mono ?_
       rw [HOb.out]
       rintro e w2 ⟨rfl,hb2⟩
       have HB2:=Lh (bov HB.out HB.out.size hb2)
       clear hb2
       go_wp2_with fail
       go_roundw
       case rel=>exact⟨j+1,hlt,by go_num,by rw [HSu.out];go_num,HB2.out⟩
       case measure=>simp [intOf];omega
   ·
    obtain rfl:j=xs.length:=by omega
    rw [List.take_length]
    go_wp2_with fail
    go_ret
    exact⟨rfl,HB.out⟩
end Go.Proofs.YtllcipobiengiaaGreat
namespace Go.Proofs.YtllcipobiengiaaGreat
open Go Go.RowKit

attribute [local irreducible] lnSeen lnOdd aliveX seenAll oddL blkM bareL
set_option maxHeartbeats 8000000 in
set_option maxRecDepth 100000 in
theorem rlines_any(lv sv0:Value)(l:List VertM)(R:List (Nat × Nat))(w:World)(hS:RSh w lv sv0 l R)(hl:l.length≤65536):Calls Tryz.prog 30 #[rsV lv l.length sv0] w (LnRes w l R):=by
 obtain⟨lp,lc,sp,sc,rfl,rfl,hlc⟩:=hS.form
 unfold maxLen at hlc
 have HS:=Lh (hS.over (bnew (w:=w) (.cells #[.slice lp l.length lc,.int .i64 l.length,.slice sp R.length sc] 52)))
 have HG:=Lh (anw w #[.slice lp l.length lc,.int .i64 l.length,.slice sp R.length sc] 52)
 have HB:=Lh (bnew (w:=w) (.cells #[.slice lp l.length lc,.int .i64 l.length,.slice sp R.length sc] 52))
 have HF:=Lh (ln_few l R)
 have HA:=Lh (aliveX_len l R)
 clear hS
 unfold rsV
 go_enter Tryz.func30,Tryz.ntmps30
 go_upto_region 1 with(fail)
 generalize hw0:w.alloc (.cells #[.slice lp l.length lc,.int .i64 l.length,.slice sp R.length sc] 52)=w0 at *
 clear hw0
 have HAl:Hid (∀ W,Below w0.heap.size w0 W→Calls Tryz.prog 53 #[.agg #[.slice lp l.length lc,.int .i64 l.length,.slice sp R.length sc]] W (OwnRes encI 1 3 W (aliveX l R))):=Lh fun W hW=>by
  have h:=r21alive_any _ _ l R W (HS.out.over hW)
  unfold rsV at h
  exact h
 have HOf:Hid (∀ v W,Below w0.heap.size w0 W→GRow encI 1 W v (aliveX l R)→Calls Tryz.prog 75 #[.agg #[.int .i64 l.length,.slice sp R.length sc],v] W (ROfRes W (lnBlk l R))):=Lh fun v W hW hv=>by
  have h:=rof22_any l.length R ((aliveX l R).length+1) (aliveX l R) v _ W (Nat.lt_succ_self _) (by have:=HA.out;omega) (HS.out.over hW).rel hv
  exact h
 have g0:=HG.out.k 0 rfl
 have g1:=HG.out.k 1 rfl
 have g2:=HG.out.k 2 rfl
 have sg:=HG.out.lt
 have hcur:Below w0.heap.size w0 w0.drew:=(Below.refl _ _).drew
 refine wlex (C:=IsOver w0) 6 [] (by kernel_rfl) (by kernel_rfl) (iov hcur) ?_
 simp only [Tsc,Tz,Dsc,Dz]
 repeat(first|(refine lxs rfl rfl ?_;simp only [Act.put,Sib,Scs,Scz])|(refine lxo rfl ?_;go_big_quiet_step (fail);refine wpQuiet_nil ?_)|(refine lxl rfl ?_;go_wp2_with (first|(go_at_call 53;(with_reducible refine(HAl.out _ hcur).mono ?_);rintro e w2 ⟨v2,rfl,ho2,hb2⟩;have HR2:=Lh ho2.row;replace hcur:=bov hcur hcur.size hb2;clear hb2 ho2)|(go_at_call 75;(with_reducible refine(HOf.out _ _ hcur HR2.out).mono ?_);rintro e w3 ⟨v3,xs,rfl,hx3,hr3,hb3⟩;(obtain⟨p3,c3,e3,_,_,_⟩:=hx3.own.row.at encBl_len);subst e3;have HX3:=Lh hx3;have HR3:=Lh hr3;replace hcur:=bov hcur hcur.size hb3;clear hx3 hr3 hb3));refine⟨iov hcur,?_⟩))
 refine lxe ?_
 have HG3:=Lh (HG.out.over hcur)
 have HSe:Hid (seenAll l (bareL xs)=lnSeen l R):=Lh (by rw [HR3.out];unfold lnSeen;rfl)
 have HOd:Hid (oddL (bareL xs)=lnOdd l R):=Lh (by rw [HR3.out];unfold lnOdd;rfl)
 have HB3:=Lh (bov HB.out HB.out.size hcur)
 have HS3:=Lh (HS.out.over hcur)
 clear hcur g0 g1 g2 sg
 have g0:=HG3.out.k 0 rfl
 have g1:=HG3.out.k 1 rfl
 have g2:=HG3.out.k 2 rfl
 have sg:=HG3.out.lt
 go_wp2_with fail
 have h9:=rblocks_any (.slice lp l.length lc) (.slice sp R.length sc) l R (SizeOf.sizeOf xs+1) _ xs w3 (Nat.lt_succ_self _) HX3.out.own.row (bins_true HX3.out.ins) HS3.out (by rw [HSe.out];have:=HF.out.1;omega)
 unfold rsV at h9
 refine h9.mono ?_
 clear h9
 rintro e w4 ⟨v4,rfl,ho4,hb4⟩
 rw [HSe.out] at ho4
 have HO4:=Lh ho4
 have HB4:=Lh (bov HB3.out HB3.out.size hb4)
 have HX4:=Lh (HX3.out.over hb4)
 have hs4:=HB3.out.size
 clear ho4 hb4
 go_wp2_with fail
 refine(rodd_any (fun _=>True) (SizeOf.sizeOf xs+1) _ xs _ (Nat.lt_succ_self _) HX4.out.own.row (bins_true HX4.out.ins) (by rw [HOd.out];have:=HF.out.2;omega)).mono ?_
 rintro e w5 ⟨rfl,hb5⟩
 have HO5:=Lh ((HO4.out.over hb5).base hs4)
 have HB5:=Lh (bov HB4.out HB4.out.size hb5)
 clear hb5
 go_wp2_with fail
 refine bodyPost_ret (results_tmp2 rfl _ _ _) rfl ?_
 exact lnres_mk HOd.out HO5.out HB5.out
end Go.Proofs.YtllcipobiengiaaGreat
namespace Go.Proofs.YtllcipobiengiaaGreat
open Go Go.RowKit

attribute [local irreducible] idsM filesM linesM relM vertsM edgesM fewL modX lnSeen lnOdd
set_option maxHeartbeats 40000000 in
set_option maxRecDepth 100000 in
theorem shs_any(v:Value)(ps:List LaidP)(w:World)(hv:Pats w v ps)(hz:∀ x∈ps,∀ o∈x.p.ops,o.text.size≤maxLen)
  (hwk:∀ W,Calls Tryz.prog 29 #[] W fun e w'=>e=.returned (.bool true)∧Below W.heap.size W w') :
  Calls Tryz.prog 6 #[v] w fun e w'=>e=.returned (.bool true)∧Below w.heap.size w w':=by
 have hfew:=Lh (few20_any v ps 14 (by omega) w hv hz)
 have HV:=Lh hv
 have HWk:=Lh hwk
 clear hwk
 cases hf:fewL 14 (ps.map (·.p)) with
 | false =>
  rw [hf] at hfew
  clear hv hz hf
  go_enter Tryz.func6,Tryz.ntmps6
  go_wp2_with fail
  refine hfew.out.mono ?_
  rintro e w1 ⟨rfl,hb1⟩
  have HB1:=Lh hb1
  clear hb1 hfew
  unfold b01
  go_wp2_with fail
  refine(HWk.out _).mono ?_
  rintro e w2 ⟨rfl,hb2⟩
  have HB2:=Lh (bov HB1.out HB1.out.size hb2)
  clear hb2
  go_wp2_with fail
  go_ret
  exact⟨rfl,HB2.out⟩
 | true =>
  rw [hf] at hfew
  have HF:=Lh hf
  have HZ:=Lh hz
  have hpl:ps.length≤14:=by have:=fewL_len hf;simpa using this
  clear hv hz hf
  go_enter Tryz.func6,Tryz.ntmps6
  go_wp2_with fail
  refine hfew.out.mono ?_
  rintro e w2 ⟨rfl,hb1⟩
  have HB2:=Lh hb1
  clear hb1 hfew
  unfold b01
  go_wp2_with fail
  refine(build_any v ps 14 (by omega) _ (HV.out.over HB2.out) HF.out).mono ?_
  rintro e w3 ⟨b,bv,be,n,hn,rfl,hgr⟩
  have hwf:=wf_build (ps.map (·.p))
  have HMP:Hid (patsOf (modX ps)=buildM (ps.map (·.p))):=Lh (modX_pats ps)
  have HI1:=Lh (few_ids HF.out)
  have HE1:=Lh (few_edges HF.out)
  have HL1:=Lh (few_lines HF.out)
  rw [HMP.out] at HI1 HE1 HL1
  generalize buildM (ps.map (·.p))=LL at *
  obtain⟨_,_,_,hG,hb3⟩:=hgr
  have HGI:Hid (GrIs w3 b LL):=Lh ⟨bv,be,n,hG⟩
  have HW:=Lh hwf
  have HB3:=Lh (bov HB2.out HB2.out.size hb3)
  clear hG hb3 hn hwf
  go_wp2_with fail
  refine(rmodel_any v ps _ (HV.out.over HB3.out) (by omega) (fun y hy=>Nat.le_trans (fewL_ops HF.out (List.mem_map.2 ⟨y,hy,rfl⟩)).1 (by omega)) (fun y hy=>Nat.le_trans (fewL_deps23 HF.out (List.mem_map.2 ⟨y,hy,rfl⟩)) (by omega)) HZ.out).mono ?_
  rintro e w4 ⟨mv,rfl,hpm,hb4⟩
  obtain⟨a6,c6,hmv,h61,h62,h63⟩:=hpm.1.at encPat_len
  unfold maxLen at h62
  have hml:(modX ps).length≤300:=by have:=modX_few (xs:=ps);omega
  obtain⟨n6,hn6⟩:∃ n,(modX ps).length=n:=⟨_,rfl⟩
  rw [hn6] at hmv h61
  subst hmv
  have HPM:=Lh hpm
  have HML:=Lh hml
  have HB4:=Lh (bov HB3.out HB3.out.size hb4)
  have HGI4:=Lh (HGI.out.over hb4)
  clear hpm hb4 h63 hn6 hml
  go_upto_region 4 with(fail)
  have HX5:=Lh (anw w4 #[.slice a6 n6 c6] 35)
  have HB45:=Lh (bnew (w:=w4) (.cells #[.slice a6 n6 c6] 35))
  have HB5:=Lh (HB4.out.alloc HB4.out.size (.cells #[.slice a6 n6 c6] 35))
  generalize hw5:w4.alloc (.cells #[.slice a6 n6 c6] 35)=w5 at *
  clear hw5
  have HGI5:=Lh (HGI4.out.over HB45.out)
  have HPM5:=Lh (HPM.out.over HB45.out)
  have HWX:Hid (WfG (patsOf (modX ps))):=Lh (by rw [HMP.out];exact HW.out)
  have HOL:Hid (∀ x∈modX ps,x.p.ops.length≤200):=Lh fun x hx=>wf_len HWX.out x.p (List.mem_map.2 ⟨x,hx,rfl⟩)
  have HIX:Hid ((idsM (patsOf (modX ps))).length≤840):=Lh (by rw [HMP.out];exact HI1.out)
  have HEX:Hid ((edgesM (patsOf (modX ps))).length≤840):=Lh (by rw [HMP.out];exact HE1.out)
  have hfl:(filesM LL).length≤840:=Nat.le_trans (filesM_few _) HI1.out
  obtain⟨FL,hFL⟩:∃ FL,filesM LL=FL:=⟨_,rfl⟩
  have HFl:=Lh (rfiles20_own _ (modX ps) w5 HPM5.out HML.out (fun x hx=>Nat.le_trans (HOL.out x hx) (by omega)) (by have:=HIX.out;omega) (by unfold vertsM;rw [List.length_map];have:=HIX.out;omega))
  rw [flTo_all,HMP.out,hFL] at HFl
  rw [hFL] at hfl
  clear hFL
  have x0:=HX5.out.k 0 rfl
  have sx:=HX5.out.lt
  go_wp2_with fail
  refine HFl.out.mono ?_
  rintro e w7 ⟨v7,rfl,ho7,hb7⟩
  have HB57:=Lh hb7
  obtain⟨a7',c7',he7,h71,h72,hc7⟩:=ho7.row.at encVid_len
  subst he7
  unfold maxLen at h72
  have HC7:=Lh hc7
  have HB7:=Lh (bov HB5.out HB5.out.size HB57.out)
  have HX7:=Lh (HX5.out.over HB57.out)
  have HGI7:=Lh (HGI5.out.over HB57.out)
  have HPM7:=Lh (HPM5.out.over HB57.out)
  obtain⟨l7,hl7⟩:∃ k,FL.length=k:=⟨_,rfl⟩
  rw [hl7] at h71 hfl
  rw [hl7] at HC7
  rw [hl7]
  have HL7:=Lh hl7
  clear ho7 hb7 hc7 x0 sx hl7
  have HLO:Hid (∀(f:VidM) (W:World),Below w7.heap.size w7 W→Calls Tryz.prog 17 #[.pointer (some ⟨b,0,none⟩),.agg #[.int .u8 f.pid.author.toNat,.int .u16 f.pid.seq.toNat,.int .u8 f.n.toNat]] W (LofRes W (linesM LL f) (relM LL f))):=Lh fun f W hb=>lof_any b LL f W (HGI7.out.over hb) HW.out (by have:=HI1.out;omega) (by have:=HE1.out;omega)
  have HRO:Hid (∀(f:VidM) (W:World),Below w7.heap.size w7 W→Calls Tryz.prog 19 #[.agg #[.slice a6 n6 c6],.agg #[.int .u8 f.pid.author.toNat,.int .u16 f.pid.seq.toNat,.int .u8 f.n.toNat]] W (R21Res W (linesM LL f) (relM LL f))):=Lh fun f W hb=>by
   have:=r21of_any _ (modX ps) f W (HPM7.out.over hb) HML.out (fun x hx=>Nat.le_trans (HOL.out x hx) (by omega)) HWX.out (by have:=HIX.out;omega) (by have:=HEX.out;omega)
   rw [HMP.out] at this
   exact this
  go_wp2_with fail
  go_loopw [6] (fun v8 wr=>SsRel w7 l7 v8 wr) (fun v8 _=>l7 - (intOf v8).toNat)
  case atStart=>exact⟨0,Nat.zero_le _,rfl,Below.refl _ _⟩
  case round =>
   obtain⟨k,hk,rfl,hbl⟩:=hrel
   rename World=>wr
   have HXr:=Lh (HX7.out.over hbl)
   have HBl:=Lh hbl
   by_cases hlt:k<l7
   ·
    obtain⟨bf,of,rfl,sf,hcf⟩:=HC7.out.resolve_left (by omega)
    obtain⟨f,hff⟩:=gol (xs:=FL) (i:=k) (by have:=HL7.out;omega)
    have x0:=HXr.out.k 0 rfl
    have sx:=HXr.out.lt
    have f0:wr.cell? ⟨bf,of+k*3,none⟩=some (.int .u8 f.pid.author.toNat):=(hcf k f hff wr hbl).2 0 _ rfl
    have f1:wr.cell? ⟨bf,of+k*3+1,none⟩=some (.int .u16 f.pid.seq.toNat):=(hcf k f hff wr hbl).2 1 _ rfl
    have f2:wr.cell? ⟨bf,of+k*3+2,none⟩=some (.int .u8 f.n.toNat):=(hcf k f hff wr hbl).2 2 _ rfl
    have sf2:=(hcf k f hff wr hbl).1
    have HLO1:Hid (∀ W,Below wr.heap.size wr W→Calls Tryz.prog 17 #[.pointer (some ⟨b,0,none⟩),.agg #[.int .u8 f.pid.author.toNat,.int .u16 f.pid.seq.toNat,.int .u8 f.n.toNat]] W (LofRes W (linesM LL f) (relM LL f))):=Lh fun W hb=>HLO.out f W (bov HBl.out HBl.out.size hb)
    have HRO1:Hid (∀ W,Below wr.heap.size wr W→Calls Tryz.prog 19 #[.agg #[.slice a6 n6 c6],.agg #[.int .u8 f.pid.author.toNat,.int .u16 f.pid.seq.toNat,.int .u8 f.n.toNat]] W (R21Res W (linesM LL f) (relM LL f))):=Lh fun W hb=>HRO.out f W (bov HBl.out HBl.out.size hb)
    have hll:(linesM LL f).length≤1000:=by have:=HL1.out f;omega
    have HSL1:Hid (∀(s:Nat) (W:World),ShAt W s (linesM LL f) (relM LL f)→Calls Tryz.prog 28 #[.pointer (some ⟨s,0,none⟩)] W (LnX W (lnSeen (linesM LL f) (relM LL f)) (lnOdd (linesM LL f) (relM LL f)))):=Lh fun s W h1=>slines_any s _ _ W h1 (by omega)
    have HRL1:Hid (∀(lv sv:Value) (W:World),RSh W lv sv (linesM LL f) (relM LL f)→Calls Tryz.prog 30 #[rsV lv (linesM LL f).length sv] W (LnX W (lnSeen (linesM LL f) (relM LL f)) (lnOdd (linesM LL f) (relM LL f)))):=Lh fun lv sv W h1=>rlines_any lv sv _ _ W h1 (by omega)
    generalize lnSeen (linesM LL f) (relM LL f)=TS at HSL1 HRL1
    generalize lnOdd (linesM LL f) (relM LL f)=OD at HSL1 HRL1
    have HCF:Hid (∀ W,Below wr.heap.size wr W→∀ j u,(encVid f)[j]? = some u→W.cell? ⟨bf,of+k*3+j,none⟩=some u):=Lh fun W hb j u hu=>(hcf k f hff W (bov HBl.out HBl.out.size hb)).2 j u hu
    clear hcf hff hbl
    go_wp2_with fail
    refine(HLO1.out _ (Below.refl _ _)).mono ?_
    rintro e wA ⟨sA,rfl,hsz,hsh,hbA⟩
    have HSA:=Lh hsh
    have HBA:=Lh hbA
    clear hsh hbA hsz
    go_wp2_with fail
    refine(HSL1.out _ _ HSA.out).mono ?_
    rintro e wB ⟨vB,rfl,hoB,hbB⟩
    have HBB:=Lh (bov HBA.out HBA.out.size hbB)
    have HOB:=Lh hoB.row
    have HXB:=Lh (HXr.out.over HBB.out)
    have sf3:=Nat.lt_of_lt_of_le sf2 HBB.out.size
    clear hoB hbB x0 sx f0 f1 f2 sf2
    have x0:=HXB.out.k 0 rfl
    have sx:=HXB.out.lt
    have f0:wB.cell? ⟨bf,of+k*3,none⟩=some (.int .u8 f.pid.author.toNat):=HCF.out wB HBB.out 0 _ rfl
    have f1:wB.cell? ⟨bf,of+k*3+1,none⟩=some (.int .u16 f.pid.seq.toNat):=HCF.out wB HBB.out 1 _ rfl
    have f2:wB.cell? ⟨bf,of+k*3+2,none⟩=some (.int .u8 f.n.toNat):=HCF.out wB HBB.out 2 _ rfl
    go_upto_region 9 with(fail)
    have hcur:Below wB.heap.size wB wB.drew:=(Below.refl _ _).drew
    refine wlex (C:=IsOver wB) 12 [] (by kernel_rfl) (by kernel_rfl) (iov hcur) ?_
    simp only [Tsc,Tz,Dsc,Dz]
    repeat(first|(refine lxs rfl rfl ?_;simp only [Act.put,Sib,Scs,Scz])|(refine lxo rfl ?_;go_big_quiet_step (fail);refine wpQuiet_nil ?_)|(refine lxl rfl ?_;go_wp2_with (first|(go_at_call 19;(with_reducible refine(HRO1.out _ (bov HBB.out HBB.out.size hcur)).mono ?_);rintro e wC ⟨lvC,svC,rfl,hrs,hb⟩;have HRC:=Lh hrs;replace hcur:=bov hcur hcur.size hb;clear hb)|(go_at_call 30;(with_reducible refine(HRL1.out _ _ _ HRC.out).mono ?_);rintro e wD ⟨vD,rfl,hoD,hb⟩;have HRD:=Lh hoD.row;replace hcur:=bov hcur hcur.size hb;clear hb));refine⟨iov hcur,?_⟩))
    refine lxe ?_
    have HOD:=Lh (HOB.out.over hcur)
    have HBD:=Lh (bov HBB.out HBB.out.size hcur)
    clear hcur
    go_wp2_with fail
    refine(rtexts_any _ _ TS TS _ (srow_of HOD.out) (srow_of HRD.out)).mono ?_
    rw [sameS_self]
    rintro e wE ⟨rfl,hbE⟩
    have HBE:=Lh (bov HBD.out HBD.out.size hbE)
    clear hbE
    go_wp2_with fail
    go_roundw
    case rel=>exact⟨k+1,hlt,by go_num,bov HBl.out HBl.out.size HBE.out⟩
    case measure=>simp [intOf];omega
   ·
    obtain rfl:k=l7:=by omega
    go_wp2_with fail
    refine(slinesN_any _).mono ?_
    rintro e w8 ⟨⟨p8,c8,rfl⟩,hb8⟩
    have HB8:=Lh (bov HBl.out HBl.out.size hb8)
    clear hb8
    go_wp2_with fail
    refine(HWk.out _).mono ?_
    rintro e w9 ⟨rfl,hb9⟩
    have HB9:=Lh (bov HB8.out HB8.out.size hb9)
    clear hb9
    go_wp2_with fail
    go_ret
    exact⟨rfl,bov HB7.out HB7.out.size HB9.out⟩
end Go.Proofs.YtllcipobiengiaaGreat
