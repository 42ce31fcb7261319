/- Contract of lines.Of. -/
import Derived.Test.YtllcipobiengiaaGreatYLinA
import Derived.Test.YtllcipobiengiaaGreatYSteps
namespace Go.Proofs.YtllcipobiengiaaGreat
open Go Go.RowKit

/-- block s is the sheet of the lines l, with the steps R -/
def ShAt(w:World)(s:Nat)(l:List VertM)(R:List (Nat × Nat)):Prop:=∃ lp lc r op oc,Arr w s [.slice lp l.length lc,.pointer (some ⟨r,0,none⟩),.slice op l.length oc]∧GRow encVert 9 w (.slice lp l.length lc) l∧RelAt w r l.length R∧GRow encI 1 w (.slice op l.length oc) (orderM R l.length)
theorem ShAt.over{w w':World}{s:Nat}{l:List VertM}{R:List (Nat × Nat)}(h:ShAt w s l R)(hb:Below w.heap.size w w'):ShAt w' s l R:=by
 obtain⟨lp,lc,r,op,oc,h1,h2,h3,h4⟩:=h
 exact⟨lp,lc,r,op,oc,h1.over hb,h2.over hb,h3.over hb,h4.over hb⟩
theorem orderM_len(R:List (Nat × Nat))(n:Nat):(orderM R n).length=n:=by
 have h1:=orderTo_len R n n
 have h2:=whole_len (orderTo_whole R n n)
 unfold orderM;omega
theorem vown_form{w:World}{B:Nat}{e:TypeId}{v:Value}{xs:List VertM}(h:GOwn encVert 9 e w B v xs):∃ p c,v=.slice p xs.length c:=by
 obtain⟨a,cap,e1,_⟩:=h.row.at encVert_len
 exact⟨a,cap,e1⟩
theorem lines_few{L:List PatchM}{file:VidM}(h:(idsM L).length≤65536):(linesM L file).length≤65536:=by
 refine Nat.le_trans (List.length_filter_le _ _) ?_
 unfold vertsM;rw [List.length_map];exact h
theorem lines_rise{L:List PatchM}(hw:WfG L)(file:VidM):Rises vertKey (linesM L file):=List.Pairwise.filter _ (rises_vertsM (wf_len hw))
theorem relM_at{L:List PatchM}{file:VidM}{k:Nat}{e:EdgeM}(h:(stepsM L file)[k]? = some e):(relM L file)[k]? = some (placeM (linesM L file) e.1,placeM (linesM L file) e.2):=by
 unfold relM;rw [List.getElem?_map,h];rfl
theorem relM_length(L:List PatchM)(file:VidM):(relM L file).length=(stepsM L file).length:=by unfold relM;rw [List.length_map]
theorem steps_few{L:List PatchM}{file:VidM}(h:(edgesM L).length≤1000000):(stepsM L file).length≤1000000:=Nat.le_trans (List.length_filter_le _ _) h
theorem grown_lift{w w':World}(hb:Below w.heap.size w w')(row:Option Nat):w.grownBy w' row:=⟨hb.os,hb.tape,hb.output,hb.size,fun i hi _=>hb.block i hi⟩
theorem linesM_eq(L:List PatchM)(file:VidM):ofM L file 3=linesM L file:=rfl
def LofRes(w:World)(l:List VertM)(R:List (Nat × Nat))(e:Ending)(w':World):Prop:=∃ s,e=.returned (.pointer (some ⟨s,0,none⟩))∧w.heap.size≤s∧ShAt w' s l R∧Below w.heap.size w w'
def LoRel(w3:World)(R:List (Nat × Nat))(v7 v20:Value)(wr:World):Prop:=∃ k:Nat,k≤R.length∧v20=.int .i64 k∧Hid (GOwn encP 2 114 wr w3.heap.size v7 (R.take k))∧Hid (Below w3.heap.size w3 wr)
theorem take_snoc{w:World}{B:Nat}{e:TypeId}{v:Value}{R:List (Nat × Nat)}{k:Nat}{s:Nat × Nat}(hs:R[k]? = some s)(h:GOwn encP 2 e w B v (R.take k++[s])):GOwn encP 2 e w B v (R.take (k+1)):=by rw [take_one hs];exact h
attribute [local irreducible] placeM linesM relM stepsM orderM
set_option maxHeartbeats 8000000 in
set_option maxRecDepth 100000 in
theorem lof_any(b:Nat)(L:List PatchM)(file:VidM)(w:World)(hg:GrIs w b L)(hw:WfG L)(hil:(idsM L).length≤65536)(hel:(edgesM L).length≤1000000) :
  Calls Tryz.prog 17 #[.pointer (some ⟨b,0,none⟩),vidV file] w (LofRes w (linesM L file) (relM L file)):=by
 have HF:=Lib.hid (anw w #[.int .u8 file.pid.author.toNat,.int .u16 file.pid.seq.toNat,.int .u8 file.n.toNat] 40)
 have HB:=Lib.hid (bnew (w:=w) (.cells #[.int .u8 file.pid.author.toNat,.int .u16 file.pid.seq.toNat,.int .u8 file.n.toNat] 40))
 have HG:=Lib.hid hg
 have HW:=Lib.hid hw
 have hll:=lines_few (file:=file) hil
 have hrf:(relM L file).length≤1000000:=by rw [relM_length];exact steps_few hel
 have HRLn:=Lib.hid (relM_length L file)
 have HRI:=Lib.hid (lines_rise hw file)
 have HLM:=Lib.hid (linesM_eq L file)
 have HAt:=Lib.hid (fun k e=>@relM_at L file k e)
 have HEn:=Lib.hid (fun e=>@step_ends L hw (wf_len hw) file e)
 have HLt:=Lib.hid (relM_lt hw (wf_len hw) file)
 clear hg hw
 unfold vidV
 go_enter Tryz.func17,Tryz.ntmps17
 go_upto_region 1 with(fail)
 generalize hw0:w.alloc (.cells #[.int .u8 file.pid.author.toNat,.int .u16 file.pid.seq.toNat,.int .u8 file.n.toNat] 40)=w0 at *
 clear hw0
 have f0:=HF.out.cell (j:=0) rfl
 have f1:=HF.out.cell (j:=1) rfl
 have f2:=HF.out.cell (j:=2) rfl
 have sf:=HF.out.lt
 go_wp2_with fail
 refine(gof_any b L file 3 _ (HG.out.over HB.out) HW.out (by omega)).mono ?_
 rintro e w1 ⟨lv,rfl,ho1,hb1⟩
 rw [HLM.out] at ho1
 obtain⟨lp,lc,rfl⟩:=vown_form ho1
 have HO1:=Lib.hid ho1
 have HB1:=Lib.hid hb1
 clear ho1 hb1 f0 f1 f2 sf
 go_upto_region 2 with(fail)
 have HS2:=Lib.hid (show ArrT ((w1.alloc (.cells #[.slice lp (linesM L file).length lc,.pointer none,.slice none 0 0] 104)).alloc (.cells #[.pointer (some ⟨w1.heap.size,0,none⟩)] 44)) w1.heap.size 104 [.slice lp (linesM L file).length lc,.pointer none,.slice none 0 0] from ArrT.over (arrT_new w1 [.slice lp (linesM L file).length lc,.pointer none,.slice none 0 0] 104) (bnew _))
 have HC2:=Lib.hid (show ArrT ((w1.alloc (.cells #[.slice lp (linesM L file).length lc,.pointer none,.slice none 0 0] 104)).alloc (.cells #[.pointer (some ⟨w1.heap.size,0,none⟩)] 44)) (w1.heap.size+1) 44 [.pointer (some ⟨w1.heap.size,0,none⟩)] from(show(w1.alloc (.cells #[.slice lp (linesM L file).length lc,.pointer none,.slice none 0 0] 104)).heap.size=w1.heap.size+1 by simp)▸arrT_new (w1.alloc (.cells #[.slice lp (linesM L file).length lc,.pointer none,.slice none 0 0] 104)) [.pointer (some ⟨w1.heap.size,0,none⟩)] 44)
 have HB2:=Lib.hid ((bnew (w:=w1) (.cells #[.slice lp (linesM L file).length lc,.pointer none,.slice none 0 0] 104)).alloc (by simp) (.cells #[.pointer (some ⟨w1.heap.size,0,none⟩)] 44))
 generalize hw2:(w1.alloc (.cells #[.slice lp (linesM L file).length lc,.pointer none,.slice none 0 0] 104)).alloc (.cells #[.pointer (some ⟨w1.heap.size,0,none⟩)] 44)=w2 at *
 clear hw2
 have hs0:w.heap.size≤w1.heap.size:=Nat.le_trans HB.out.size HB1.out.size
 have hsl:w1.heap.size<w2.heap.size:=HS2.out.arr.lt
 obtain⟨s,hs⟩:∃ s,s=w1.heap.size:=⟨_,rfl⟩
 have HS3:=HS2.out
 have HC3:=HC2.out
 rw [← hs] at HS3 HC3 hs0 hsl ⊢
 obtain⟨c,hc⟩:∃ c,c=s+1:=⟨_,rfl⟩
 rw [← hc] at HC3 ⊢
 have HS:=Lib.hid HS3
 have HC:=Lib.hid HC3
 have HO2:=Lib.hid (HO1.out.over HB2.out)
 have HG2:=Lib.hid (HG.out.over (bov HB.out HB.out.size (bov HB1.out HB1.out.size HB2.out)))
 have HF2:=Lib.hid (HF.out.over (bov HB1.out HB1.out.size HB2.out))
 have HBB:=Lib.hid (bov HB.out HB.out.size (bov HB1.out HB1.out.size HB2.out))
 have hcs:c≠s:=by omega
 clear hs hc HS3 HC3 HS2 HC2 HO1
 have f0:=HF2.out.cell (j:=0) rfl
 have f1:=HF2.out.cell (j:=1) rfl
 have f2:=HF2.out.cell (j:=2) rfl
 have sf:=HF2.out.lt
 go_wp2_with fail
 refine(gsteps_any b L file _ HG2.out hel).mono ?_
 rintro e w3 ⟨ev,rfl,ho3,hb3⟩
 obtain⟨ep,ec,rfl,z1,z2,hce⟩:=ho3.row.at encEdge_len
 unfold maxLen at z2
 have HCE:=Lib.hid hce
 have HB3:=Lib.hid hb3
 have HS3:=Lib.hid (HS.out.over hb3)
 have HC3:=Lib.hid (HC.out.over hb3)
 have HO3:=Lib.hid (HO2.out.over hb3)
 clear ho3 hb3 hce f0 f1 f2 sf
 rw [← HRLn.out] at z1 ⊢
 go_wp2_with fail
 go_loopw [7,20] (fun v7 v20 wr=>LoRel w3 (relM L file) v7 v20 wr) (fun _ v20 _=>(relM L file).length - (intOf v20).toNat)
 case atStart=>exact⟨0,by omega,rfl,Lib.hid (by rw [List.take_zero];exact gown_nil _ _),Below.refl _ _⟩
 case round =>
  obtain⟨k,hk,rfl,HM,hbl⟩:=hrel
  rename World=>wr
  by_cases hlt:k<(relM L file).length
  ·
   obtain⟨b3,off3,rfl,sb3,hcb⟩:=HCE.out.resolve_left (by rw [← HRLn.out];omega)
   obtain⟨x,hx⟩:=gol (xs:=stepsM L file) (i:=k) (by rw [← HRLn.out];exact hlt)
   have HX:=Lib.hid (HAt.out k x hx)
   obtain⟨hm1,hm2⟩:=HEn.out x (List.mem_of_getElem? hx)
   have HM1:=Lib.hid hm1
   have HM2:=Lib.hid hm2
   have HRx:=Lib.hid (hcb k x hx wr hbl.out)
   have x0:wr.cell? ⟨b3,off3+k*6,none⟩=some (.int .u8 x.1.pid.author.toNat):=(HRx.out).2 0 _ rfl
   have x1:wr.cell? ⟨b3,off3+k*6+1,none⟩=some (.int .u16 x.1.pid.seq.toNat):=(HRx.out).2 1 _ rfl
   have x2:wr.cell? ⟨b3,off3+k*6+2,none⟩=some (.int .u8 x.1.n.toNat):=(HRx.out).2 2 _ rfl
   have x3:wr.cell? ⟨b3,off3+k*6+3,none⟩=some (.int .u8 x.2.pid.author.toNat):=(HRx.out).2 3 _ rfl
   have x4:wr.cell? ⟨b3,off3+k*6+4,none⟩=some (.int .u16 x.2.pid.seq.toNat):=(HRx.out).2 4 _ rfl
   have x5:wr.cell? ⟨b3,off3+k*6+5,none⟩=some (.int .u8 x.2.n.toNat):=(HRx.out).2 5 _ rfl
   have sx:=HRx.out.1
   clear hcb hx hm1 hm2
   go_upto_region 7 with(fail)
   have HA7:=Lib.hid (anw wr #[.int .u8 x.1.pid.author.toNat,.int .u16 x.1.pid.seq.toNat,.int .u8 x.1.n.toNat,.int .u8 x.2.pid.author.toNat,.int .u16 x.2.pid.seq.toNat,.int .u8 x.2.n.toNat] 113)
   have HB7:=Lib.hid (bnew (w:=wr) (.cells #[.int .u8 x.1.pid.author.toNat,.int .u16 x.1.pid.seq.toNat,.int .u8 x.1.n.toNat,.int .u8 x.2.pid.author.toNat,.int .u16 x.2.pid.seq.toNat,.int .u8 x.2.n.toNat] 113))
   generalize hw7:wr.alloc (.cells #[.int .u8 x.1.pid.author.toNat,.int .u16 x.1.pid.seq.toNat,.int .u8 x.1.n.toNat,.int .u8 x.2.pid.author.toNat,.int .u16 x.2.pid.seq.toNat,.int .u8 x.2.n.toNat] 113)=w7 at *
   clear hw7 x0 x1 x2 x3 x4 x5 sx
   have HM7:=Lib.hid (HM.out.over HB7.out)
   have hb7:=bov hbl.out hbl.out.size HB7.out
   have HS7:=Lib.hid (HS3.out.over hb7)
   have HC7:=Lib.hid (HC3.out.over hb7)
   have HO7:=Lib.hid (HO3.out.over hb7)
   have HBl7:=Lib.hid hb7
   have hB7:=hb7.size
   have hN7:((relM L file).take k).length+1≤1099511627776:=by rw [List.length_take];omega
   clear hb7
   have y0:=HA7.out.cell (j:=0) rfl
   have y1:=HA7.out.cell (j:=1) rfl
   have y2:=HA7.out.cell (j:=2) rfl
   have y3:=HA7.out.cell (j:=3) rfl
   have y4:=HA7.out.cell (j:=4) rfl
   have y5:=HA7.out.cell (j:=5) rfl
   have sy:=HA7.out.lt
   have hcur:Below w7.heap.size w7 w7.drew:=(Below.refl _ _).drew
   refine wlex (C:=IsOver w7) 11 [] (by kernel_rfl) (by kernel_rfl) (iov hcur) ?_
   simp only [List.take_succ_cons,List.take_zero,List.drop_succ_cons,List.drop_zero]
   repeat(first|(refine lxs rfl rfl ?_;simp only [Act.put,List.setIfInBounds_toArray,List.set_cons_succ,List.set_cons_zero])|(refine lxo rfl ?_;go_big_quiet_step (fail);refine wpQuiet_nil ?_)|(refine lxl rfl ?_;go_wp2_with (first|(go_at_call 46;(first|(with_reducible refine(lat_any x.1 c s lp lc _ _ (linesM L file) _ (HC7.out.arr.over hcur) (HS7.out.arr.over hcur) (HO7.out.row.over hcur) HRI.out HM1.out (by omega)).mono ?_)|(with_reducible refine(lat_any x.2 c s lp lc _ _ (linesM L file) _ (HC7.out.arr.over hcur) (HS7.out.arr.over hcur) (HO7.out.row.over hcur) HRI.out HM2.out (by omega)).mono ?_));rintro e w' ⟨rfl,hb⟩;replace hcur:=bov hcur hcur.size hb;clear hb));refine⟨iov (by first|exact hcur|exact hcur.alloc hcur.size _),?_⟩))
   refine lxe ?_
   have HM8:=Lib.hid (HM7.out.over hcur)
   have HB8:=Lib.hid (bov HBl7.out HBl7.out.size hcur)
   have hB8:=HB8.out.size
   clear hcur y0 y1 y2 y3 y4 y5 sy
   go_wp2_with (at_builtin;refine apD slPair rfl _ _ rfl w3.heap.size _ _ (drf _) 1 _ _ _ HM8.out rfl rfl rfl rfl hN7 (by decide) hB8 ?_;intro v9 w9 ho9 hg9)
   go_roundw
   case rel=>exact⟨k+1,hlt,by go_num,Lib.hid (take_snoc HX.out (GOwn.snoc ho9)),bgr HB8.out hB8 HM8.out hg9⟩
   case measure=>simp [intOf];omega
  ·
   obtain rfl:k=(relM L file).length:=by omega
   have hE:=HM.out
   rw [List.take_length] at hE
   have HE:=Lib.hid hE
   obtain⟨rp,rc,rfl,t1,t2,_⟩:=prow_at hE.row
   unfold maxLen at t2
   have HSr:=Lib.hid (HS3.out.over hbl.out)
   have HCr:=Lib.hid (HC3.out.over hbl.out)
   have HOr:=Lib.hid (HO3.out.over hbl.out)
   clear hE HM
   have c0:=HCr.out.arr.cell (j:=0) rfl
   have sc:=HCr.out.arr.lt
   have s0:=HSr.out.arr.cell (j:=0) rfl
   have ss:=HSr.out.arr.lt
   go_wp2_with fail
   have hcur:Below wr.heap.size wr wr.drew:=(Below.refl _ _).drew
   refine wlex (C:=IsOver wr) 10 [] (by kernel_rfl) (by kernel_rfl) (iov hcur) ?_
   simp only [List.take_succ_cons,List.take_zero,List.drop_succ_cons,List.drop_zero]
   repeat(first|(refine lxs rfl rfl ?_;simp only [Act.put,List.setIfInBounds_toArray,List.set_cons_succ,List.set_cons_zero])|(refine lxo rfl ?_;go_big_quiet_step (fail);refine wpQuiet_nil ?_)|(refine lxl rfl ?_;go_wp2_with (first|(go_at_call 51;(with_reducible refine(rchOf_any (linesM L file).length _ (relM L file) _ (HE.out.row.over hcur) HLt.out hll (by omega)).mono ?_);rintro e w' ⟨r,rfl,hr,hrel,hkeep,hb⟩;have HRel:=Lib.hid hrel;have hxs:wr.heap.size≤_:=hcur.size;have HKeep:=Lib.hid hkeep;replace hcur:=bov hcur hcur.size hb;clear hb hrel hkeep hr));refine⟨iov hcur,?_⟩))
   refine lxe ?_
   have HO9:=Lib.hid (HOr.out.over hcur)
   have HS9:=Lib.hid (HSr.out.over hcur)
   have HC9:=Lib.hid (HCr.out.over hcur)
   have HB9:=Lib.hid (bov (bov HBB.out HBB.out.size HB3.out) (Nat.le_trans HBB.out.size HB3.out.size) (bov hbl.out hbl.out.size hcur))
   rename World=>w9
   clear hcur c0 sc s0 ss
   have s1:=HS9.out.arr.cell (j:=1) rfl
   have f1:=HS9.out.arr.free 1
   have ss:=HS9.out.arr.lt
   go_upto_region 10 with(fail)
   have HSa:=Lib.hid (HS9.out.set 1 (.pointer (some ⟨r,0,none⟩)))
   have HCa:=Lib.hid (HC9.out.set_other (a:=⟨s,1,none⟩) (show c≠s from hcs) (.pointer (some ⟨r,0,none⟩)))
   have hga:=gsc (g:=s) w9 1 (.pointer (some ⟨r,0,none⟩))
   have HOa:=Lib.hid (own_kept HO9.out hga (HS9.out.ne HO9.out (by decide)))
   have hsw9:s<wr.heap.size:=HSr.out.arr.lt
   have HRa:=Lib.hid (HKeep.out _ s (by omega) hga)
   have HGa:=Lib.hid hga
   have HBa:=Lib.hid (HB9.out.setCell (p:=⟨s,1,none⟩) hs0 (.pointer (some ⟨r,0,none⟩)))
   simp only [List.set_cons_succ,List.set_cons_zero] at HSa
   generalize hwa:w9.setCell ⟨s,1,none⟩ (.pointer (some ⟨r,0,none⟩))=wa at *
   clear hwa hga s1 f1 ss
   have c0:=HCa.out.arr.cell (j:=0) rfl
   have sc:=HCa.out.arr.lt
   have s1:=HSa.out.arr.cell (j:=1) rfl
   have ss:=HSa.out.arr.lt
   have hcur:Below wa.heap.size wa wa.drew:=(Below.refl _ _).drew
   refine wlex (C:=IsOver wa) 8 [] (by kernel_rfl) (by kernel_rfl) (iov hcur) ?_
   simp only [List.take_succ_cons,List.take_zero,List.drop_succ_cons,List.drop_zero]
   repeat(first|(refine lxs rfl rfl ?_;simp only [Act.put,List.setIfInBounds_toArray,List.set_cons_succ,List.set_cons_zero])|(refine lxo rfl ?_;go_big_quiet_step (fail);refine wpQuiet_nil ?_)|(refine lxl rfl ?_;go_wp2_with (first|(go_at_call 52;(with_reducible refine(order_any r (linesM L file).length (relM L file) _ (HRa.out.over hcur)).mono ?_);rintro e w' ⟨ov,rfl,hov,hb⟩;have HOV:=Lib.hid hov;have hxs:=hcur.size;replace hcur:=bov hcur hcur.size hb;clear hb hov));refine⟨iov hcur,?_⟩))
   refine lxe ?_
   rename World=>wd
   obtain⟨op,oc,rfl⟩:=own_form HOV.out
   rw [orderM_len]
   have HO4:=HOV.out
   rw [orderM_len] at HO4
   have HOq:=Lib.hid HO4
   have HSd:=Lib.hid (HSa.out.over hcur)
   have HCd:=Lib.hid (HCa.out.over hcur)
   have HLd:=Lib.hid (HOa.out.over hcur)
   have HGd:=Lib.hid (gtr HGa.out (grown_lift hcur (some s)))
   have HBd:=Lib.hid (bov HBa.out HBa.out.size hcur)
   clear hcur HO4 HOV c0 sc s1 ss
   have s2:=HSd.out.arr.cell (j:=2) rfl
   have f2:=HSd.out.arr.free 2
   have ss:=HSd.out.arr.lt
   go_upto_region 11 with(fail)
   have hge:=gsc (g:=s) wd 2 (.slice op (linesM L file).length oc)
   have HRe:=Lib.hid (HKeep.out _ s (by omega) (gtr HGd.out hge))
   have HSe:=Lib.hid (HSd.out.set 2 (.slice op (linesM L file).length oc))
   have HCe:=Lib.hid (HCd.out.set_other (a:=⟨s,2,none⟩) (show c≠s from hcs) (.slice op (linesM L file).length oc))
   have HLe:=Lib.hid (own_kept HLd.out hge (HSd.out.ne HLd.out (by decide)))
   have HOe:=Lib.hid (own_kept HOq.out hge (HSd.out.ne HOq.out (by decide)))
   have HBe:=Lib.hid (HBd.out.setCell (p:=⟨s,2,none⟩) hs0 (.slice op (linesM L file).length oc))
   generalize hwe:wd.setCell ⟨s,2,none⟩ (.slice op (linesM L file).length oc)=we at *
   clear hwe hge s2 f2 ss
   have c0:=HCe.out.arr.cell (j:=0) rfl
   have sc:=HCe.out.arr.lt
   go_wp2_with fail
   go_ret
   exact⟨s,rfl,hs0,⟨lp,lc,r,op,oc,HSe.out.arr,HLe.out.row,HRe.out,HOe.out.row⟩,HBe.out⟩
end Go.Proofs.YtllcipobiengiaaGreat
