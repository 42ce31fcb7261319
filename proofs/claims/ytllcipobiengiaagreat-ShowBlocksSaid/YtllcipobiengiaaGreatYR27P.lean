/- Contract of ref21.Of. What ref27.Ops needs: rows apart, marks. -/
import Derived.Test.YtllcipobiengiaaGreatYShtV
import Derived.Test.YtllcipobiengiaaGreatYRefM
set_option linter.unusedVariables false
set_option linter.unusedSimpArgs false
namespace Go.Proofs.YtllcipobiengiaaGreat
open Go Go.RowKit

theorem Row.other{w w':World}{v:Value}{n sz g:Nat}{cs ds:List Value}(h:Row w v n sz cs)(hA:Arr w g ds)(hd:ds.length<sz)(hg:w.grownBy w' (some g)):Row w' v n sz cs:=by
 obtain⟨h1,a,cap,rfl,h2,h3,h4,h5⟩:=h
 refine⟨h1,a,cap,rfl,h2,h3,h4,fun hn => ?_⟩
 obtain⟨b,off,ha,hb,hc⟩:=h5 hn
 have hne:b≠g:=by
  rintro rfl
  have hlt:sz - 1<cs.length:=by
   rw [h1]
   have:1*sz≤n*sz:=Nat.mul_le_mul_right _ (by omega)
   omega
  have hcell:=hc (sz - 1) _ (List.getElem?_eq_getElem hlt)
  obtain⟨e,he⟩:=hA
  rw [cell_of_row w b (off+(sz - 1)) _ e (0,0) he] at hcell
  have hno:ds[off+(sz - 1)]? = none:=List.getElem?_eq_none (by omega)
  simp [hno] at hcell
 refine⟨b,off,ha,Nat.lt_of_lt_of_le hb hg.size,fun j u hu => ?_⟩
 rw [World.cell?_of_block (hg.block b hb (fun q=>hne (Option.some.inj q)))]
 exact hc j u hu
theorem rowSh:RowT Tryz.prog 52 3:=rowT_of Tryz.underlying52 rfl (by kernel_rfl)
def R21Res(w:World)(l:List VertM)(R:List (Nat × Nat))(e:Ending)(w':World):Prop:=∃ lv sv,e=.returned (rsV lv l.length sv)∧RSh w' lv sv l R∧Below w.heap.size w w'
theorem r21_mk{w w':World}{l:List VertM}{R:List (Nat × Nat)}{lp sp:Option Addr}{lc sc:Nat}(h:RSh w' (.slice lp l.length lc) (.slice sp R.length sc) l R)(hb:Below w.heap.size w w'):R21Res w l R (.returned (rsV (.slice lp l.length lc) l.length (.slice sp R.length sc))) w':=⟨_,_,rfl,h,hb⟩
attribute [local irreducible] placeM linesM relM stepsM edgesM
set_option maxHeartbeats 8000000 in
set_option maxRecDepth 100000 in
theorem r21of_any(gv:Value)(xs:List LaidP)(file:VidM)(w:World)(hv:Pats w gv xs)(hn:xs.length≤300)(hl:∀ x∈xs,x.p.ops.length≤260)(hw:WfG (patsOf xs))(hil:(idsM (patsOf xs)).length≤65536)(hel:(edgesM (patsOf xs)).length≤100000) :
  Calls Tryz.prog 19 #[rgV gv,vidV file] w (R21Res w (linesM (patsOf xs) file) (relM (patsOf xs) file)):=by
 have hvl:(vertsM (patsOf xs)).length≤100000:=by unfold vertsM;rw [List.length_map];omega
 have HLs:=Lh hl
 obtain⟨ga,gc,rfl,_,_,_⟩:=hv.1.at encPat_len
 have HB0a:=(bnew (w:=w) (.cells #[.slice ga xs.length gc] 35)).alloc (by simp) (.cells #[.int .u8 file.pid.author.toNat,.int .u16 file.pid.seq.toNat,.int .u8 file.n.toNat] 40)
 have HB0:=Lh (HB0a.alloc (by simp;omega) (.cells #[.slice none 0 0,.int .i64 0,.slice none 0 0] 52))
 have HG:=Lh (((anw w #[.slice ga xs.length gc] 35).alloc (.cells #[.int .u8 file.pid.author.toNat,.int .u16 file.pid.seq.toNat,.int .u8 file.n.toNat] 40)).alloc (.cells #[.slice none 0 0,.int .i64 0,.slice none 0 0] 52))
 have HF:=Lh ((an2 w (.cells #[.slice ga xs.length gc] 35) #[.int .u8 file.pid.author.toNat,.int .u16 file.pid.seq.toNat,.int .u8 file.n.toNat] 40).alloc (.cells #[.slice none 0 0,.int .i64 0,.slice none 0 0] 52))
 have HZ:=Lh (arr_new3 w (.cells #[.slice ga xs.length gc] 35) (.cells #[.int .u8 file.pid.author.toNat,.int .u16 file.pid.seq.toNat,.int .u8 file.n.toNat] 40) #[.slice none 0 0,.int .i64 0,.slice none 0 0] 52)
 have HZt:=Lh (show ArrT (((w.alloc (.cells #[.slice ga xs.length gc] 35)).alloc (.cells #[.int .u8 file.pid.author.toNat,.int .u16 file.pid.seq.toNat,.int .u8 file.n.toNat] 40)).alloc (.cells #[.slice none 0 0,.int .i64 0,.slice none 0 0] 52)) (w.heap.size+1+1) 52 [.slice none 0 0,.int .i64 0,.slice none 0 0] from(show((w.alloc (.cells #[.slice ga xs.length gc] 35)).alloc (.cells #[.int .u8 file.pid.author.toNat,.int .u16 file.pid.seq.toNat,.int .u8 file.n.toNat] 40)).heap.size=w.heap.size+1+1 by simp)▸arrT_new ((w.alloc (.cells #[.slice ga xs.length gc] 35)).alloc (.cells #[.int .u8 file.pid.author.toNat,.int .u16 file.pid.seq.toNat,.int .u8 file.n.toNat] 40)) [.slice none 0 0,.int .i64 0,.slice none 0 0] 52)
 have HV:=Lh (hv.over HB0.out)
 have hll:=lines_few (file:=file) hil
 have hrf:(relM (patsOf xs) file).length≤1000000:=by rw [relM_length];exact steps_few (by omega)
 have HRLn:=Lh (relM_length (patsOf xs) file)
 have HAt:=Lh (fun k e=>@relM_at (patsOf xs) file k e)
 have HEn:=Lh (fun e=>@step_ends (patsOf xs) hw (wf_len hw) file e)
 have HLt:=Lh (relM_lt hw (wf_len hw) file)
 have HLM:=Lh (linesM_eq (patsOf xs) file)
 clear hv hl hw HB0a
 unfold rgV vidV
 go_enter Tryz.func19,Tryz.ntmps19
 go_upto_region 1 with(fail)
 generalize hw0:((w.alloc (.cells #[.slice ga xs.length gc] 35)).alloc (.cells #[.int .u8 file.pid.author.toNat,.int .u16 file.pid.seq.toNat,.int .u8 file.n.toNat] 40)).alloc (.cells #[.slice none 0 0,.int .i64 0,.slice none 0 0] 52)=w0 at *
 clear hw0
 have g0:=HG.out.k 0 rfl
 have sg:=HG.out.lt
 have f0:=HF.out.k 0 rfl
 have f1:=HF.out.k 1 rfl
 have f2:=HF.out.k 2 rfl
 have sf:=HF.out.lt
 go_wp2_with fail
 refine(rof20_any _ xs file 3 _ HV.out hn HLs.out (by omega) hvl).mono ?_
 rintro e w1 ⟨lv,rfl,ho1,hb1⟩
 rw [HLM.out] at ho1
 obtain⟨lp,lc,rfl,z1,z2,_⟩:=ho1.at encVert_len
 unfold maxLen at z2
 have HO1:=Lh ho1
 have HB1:=Lh hb1
 have HG1:=Lh (HG.out.over hb1)
 have HF1:=Lh (HF.out.over hb1)
 have HZ1:=Lh (HZ.out.over hb1)
 clear ho1 hb1 g0 sg f0 f1 f2 sf
 have g0:=HG1.out.k 0 rfl
 have sg:=HG1.out.lt
 have f0:=HF1.out.k 0 rfl
 have f1:=HF1.out.k 1 rfl
 have f2:=HF1.out.k 2 rfl
 have sf:=HF1.out.lt
 go_wp2_with fail
 refine(rsteps20_any _ xs file _ (HV.out.over HB1.out) hn HLs.out hel).mono ?_
 rintro e w2 ⟨ev,rfl,ho2,hb2⟩
 obtain⟨ep,ec,rfl,y1,y2,hce⟩:=ho2.at encEdge_len
 unfold maxLen at y2
 have HCE:=Lh hce
 have HO2:=Lh (HO1.out.over hb2)
 have HB2:=Lh (bov HB1.out HB1.out.size hb2)
 have HZ2:=Lh (HZ1.out.over hb2)
 clear ho2 hb2 hce g0 sg f0 f1 f2 sf
 rw [← HRLn.out] at y1 ⊢
 generalize linesM (patsOf xs) file=l at *
 go_wp2_with fail
 go_loopw [7,8] (fun v7 v8 wr=>LoRel w2 (relM (patsOf xs) file) v7 v8 wr) (fun _ v8 _=>(relM (patsOf xs) file).length - (intOf v8).toNat)
 case atStart=>exact⟨0,by omega,rfl,Lh (by rw [List.take_zero];exact gown_nil _ _),Below.refl _ _⟩
 case round =>
  obtain⟨k,hk,rfl,HM,hbl⟩:=hrel
  rename World=>wr
  by_cases hlt:k<(relM (patsOf xs) file).length
  ·
   obtain⟨b3,off3,rfl,sb3,hcb⟩:=HCE.out.resolve_left (by rw [← HRLn.out];omega)
   obtain⟨x,hx⟩:=gol (xs:=stepsM (patsOf xs) file) (i:=k) (by rw [← HRLn.out];exact hlt)
   have HX:=Lh (HAt.out k x hx)
   obtain⟨hm1,hm2⟩:=HEn.out x (List.mem_of_getElem? hx)
   have HM1:=Lh hm1
   have HM2:=Lh hm2
   have HRx:=Lh (hcb k x hx wr hbl.out)
   have HOr:=Lh (HO2.out.over hbl.out)
   have x0:wr.cell? ⟨b3,off3+k*6,none⟩=some (.int .u8 x.1.pid.author.toNat):=(HRx.out).2 0 _ rfl
   have x1:wr.cell? ⟨b3,off3+k*6+1,none⟩=some (.int .u16 x.1.pid.seq.toNat):=(HRx.out).2 1 _ rfl
   have x2:wr.cell? ⟨b3,off3+k*6+2,none⟩=some (.int .u8 x.1.n.toNat):=(HRx.out).2 2 _ rfl
   have x3:wr.cell? ⟨b3,off3+k*6+3,none⟩=some (.int .u8 x.2.pid.author.toNat):=(HRx.out).2 3 _ rfl
   have x4:wr.cell? ⟨b3,off3+k*6+4,none⟩=some (.int .u16 x.2.pid.seq.toNat):=(HRx.out).2 4 _ rfl
   have x5:wr.cell? ⟨b3,off3+k*6+5,none⟩=some (.int .u8 x.2.n.toNat):=(HRx.out).2 5 _ rfl
   have sx:=HRx.out.1
   have hN7:((relM (patsOf xs) file).take k).length+1≤1099511627776:=by rw [List.length_take];omega
   clear hcb hx hm1 hm2
   go_wp2_with fail
   have hcur:Below wr.heap.size wr wr.drew:=(Below.refl _ _).drew
   refine wlex (C:=IsOver wr) 17 [] (by kernel_rfl) (by kernel_rfl) (iov hcur) ?_
   simp only [Tsc,Tz,Dsc,Dz]
   repeat(first|(refine lxs rfl rfl ?_;simp only [Act.put,Sib,Scs,Scz])|(refine lxo rfl ?_;go_big_quiet_step (fail);refine wpQuiet_nil ?_)|(refine lxl rfl ?_;go_wp2_with (first|(go_at_call 60;(first|(with_reducible refine(r21place_any _ l x.1 _ (HOr.out.over hcur) HM1.out).mono ?_)|(with_reducible refine(r21place_any _ l x.2 _ (HOr.out.over hcur) HM2.out).mono ?_));rintro e w' ⟨rfl,hb⟩;replace hcur:=bov hcur hcur.size hb;clear hb));refine⟨iov (by first|exact hcur|exact hcur.alloc hcur.size _),?_⟩))
   refine lxe ?_
   have HM8:=Lh (HM.out.over hcur)
   have HB8:=Lh (bov hbl.out hbl.out.size hcur)
   have hB8:=HB8.out.size
   clear hcur x0 x1 x2 x3 x4 x5 sx
   go_wp2_with (at_builtin;refine apD slPair rfl _ _ rfl w2.heap.size _ _ (drf _) 1 _ _ _ HM8.out rfl rfl rfl rfl hN7 (by decide) hB8 ?_;intro v9 w9 ho9 hg9)
   go_roundw
   case rel=>exact⟨k+1,hlt,by go_num,Lh (take_snoc HX.out (GOwn.snoc ho9)),bgr HB8.out hB8 HM8.out hg9⟩
   case measure=>simp [intOf];omega
  ·
   obtain rfl:k=(relM (patsOf xs) file).length:=by omega
   have hE:=HM.out
   rw [List.take_length] at hE
   have HE:=Lh hE
   obtain⟨rp,rc,rfl,t1,t2,_⟩:=prow_at hE.row
   unfold maxLen at t2
   clear hE HM
   go_wp2_with fail
   refine(r8of_any l.length _ (relM (patsOf xs) file) _ HE.out.row HLt.out hll hrf).mono ?_
   rintro e w4 ⟨u,rfl,ho4,hb4⟩
   obtain⟨up,uc,rfl,_,_,_⟩:=prow_at ho4.row
   have HUo:=Lh ho4
   have HZT:=Lh ((HZt.out.over (bov HB2.out HB2.out.size hbl.out)).over hb4)
   have HBf:=Lh (bov HB0.out HB0.out.size (bov HB2.out HB2.out.size (bov hbl.out hbl.out.size hb4)))
   have HO4:=Lh ((HO2.out.over hbl.out).over hb4)
   have HZ4:=Lh ((HZ2.out.over hbl.out).over hb4)
   clear ho4 hb4
   have q0:=HZ4.out.k 0 rfl
   have q1:=HZ4.out.k 1 rfl
   have q2:=HZ4.out.k 2 rfl
   have qf0:=HZ4.out.free 0
   have qf1:=HZ4.out.free 1
   have qf2:=HZ4.out.free 2
   have sq:=HZ4.out.lt
   have hrow:=Row.other (show Row _ _ _ _ _ from HO4.out) HZ4.out (by simp) (gtr (gtr (gsc (g:=w.heap.size+1+1) w4 0 (.slice lp l.length lc)) (gsc _ 1 (.int .i64 l.length))) (gsc _ 2 (.slice up (relM (patsOf xs) file).length uc)))
   have HRw:=Lh hrow
   have hho:GOwn encP 2 114 (((w4.setCell ⟨w.heap.size+1+1,0,none⟩ (.slice lp l.length lc)).setCell ⟨w.heap.size+1+1,1,none⟩ (.int .i64 l.length)).setCell ⟨w.heap.size+1+1,2,none⟩ (.slice up (relM (patsOf xs) file).length uc)) _ (.slice up (relM (patsOf xs) file).length uc) (relM (patsOf xs) file):=
    own_kept (own_kept (own_kept HUo.out (gsc _ _ _) (HZT.out.ne HUo.out (by decide))) (gsc _ _ _) (HZT.out.ne HUo.out (by decide))) (gsc _ _ _) (HZT.out.ne HUo.out (by decide))
   have HUf:=Lh hho.row
   have HBg:=Lh (((HBf.out.setCell (p:=⟨w.heap.size+1+1,0,none⟩) (by show w.heap.size≤w.heap.size+1+1;omega) (.slice lp l.length lc)).setCell (p:=⟨w.heap.size+1+1,1,none⟩) (by show w.heap.size≤w.heap.size+1+1;omega) (.int .i64 l.length)).setCell (p:=⟨w.heap.size+1+1,2,none⟩) (by show w.heap.size≤w.heap.size+1+1;omega) (.slice up (relM (patsOf xs) file).length uc))
   clear hrow hho
   go_wp2_with fail
   refine bodyPost_ret (v:=rsV (.slice lp l.length lc) l.length (.slice up (relM (patsOf xs) file).length uc)) (results_arr rowSh rfl (((HZ4.out.set 0 _).set 1 _).set 2 _) rfl rfl) rfl ?_
   exact r21_mk ⟨HRw.out,HUf.out,by omega,HLt.out,hrf⟩ HBg.out
end Go.Proofs.YtllcipobiengiaaGreat
namespace Go.Proofs.YtllcipobiengiaaGreat
open Go Go.RowKit

theorem dvown_form{w:World}{B:Nat}{e:TypeId}{v:Value}{xs:List VidM}(h:GOwn encVid 3 e w B v xs):∃ p c,v=.slice p xs.length c:=by
 obtain⟨a,cap,e1,_⟩:=h.row.at encVid_len
 exact⟨a,cap,e1⟩
theorem vown_more{w:World}{B:Nat}{e:TypeId}{v:Value}{xs ys:List VidM}{o:VidM}(h:GOwn encVid 3 e w B v (xs++[o]))(hy:ys=xs++[o]):∃(p:Option Addr) (c:Nat),v=.slice p ys.length c∧GOwn encVid 3 e w B v ys:=by
 subst hy
 obtain⟨p,c,e⟩:=dvown_form h
 exact⟨p,c,e,h⟩
end Go.Proofs.YtllcipobiengiaaGreat
