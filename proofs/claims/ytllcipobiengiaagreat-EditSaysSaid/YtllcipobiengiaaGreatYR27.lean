/- Contract of ref21.Of. What ref27.Ops needs: rows apart, marks. Contract of ref27.Ops. -/
import Derived.Test.YtllcipobiengiaaGreatYR21A
import Derived.Test.YtllcipobiengiaaGreatYRefM
namespace Go.Proofs.YtllcipobiengiaaGreat
open Go Go.RowKit

/-- a row of large things lies in no small block -/
theorem Row.other{w w':World}{v:Value}{n sz g:Nat}{cs ds:List Value}(h:Row w v n sz cs)(hA:Arr w g ds)(hd:ds.length<sz)(hg:w.grownBy w' (some g)):Row w' v n sz cs:=by
 obtain⟨h1,a,cap,rfl,h2,h3,h4,h5⟩:=h
 refine⟨h1,a,cap,rfl,h2,h3,h4,fun hn => ?_⟩
 obtain⟨b,off,ha,hb,hc⟩:=h5 hn
 have hne:b≠g:=by
  rintro rfl
  have hlt:sz - 1<cs.length:=by
   rw [h1]
   have:1*sz≤n*sz:=Nat.mul_le_mul_right _ (by omega)
   omega
  have hcell:=hc (sz - 1) _ (List.getElem?_eq_getElem hlt)
  obtain⟨e,he⟩:=hA
  rw [cell_of_row w b (off+(sz - 1)) _ e (0,0) he] at hcell
  have hno:ds[off+(sz - 1)]? = none:=List.getElem?_eq_none (by omega)
  simp [hno] at hcell
 refine⟨b,off,ha,Nat.lt_of_lt_of_le hb hg.size,fun j u hu => ?_⟩
 rw [World.cell?_of_block (hg.block b hb (fun q=>hne (Option.some.inj q)))]
 exact hc j u hu
theorem rowSh:RowT Tryz.prog 52 3:=rowT_of Tryz.underlying52 rfl (by kernel_rfl)
def R21Res(w:World)(l:List VertM)(R:List (Nat × Nat))(e:Ending)(w':World):Prop:=∃ lv sv,e=.returned (rsV lv l.length sv)∧RSh w' lv sv l R∧Below w.heap.size w w'
theorem r21_mk{w w':World}{l:List VertM}{R:List (Nat × Nat)}{lp sp:Option Addr}{lc sc:Nat}(h:RSh w' (.slice lp l.length lc) (.slice sp R.length sc) l R)(hb:Below w.heap.size w w'):R21Res w l R (.returned (rsV (.slice lp l.length lc) l.length (.slice sp R.length sc))) w':=⟨_,_,rfl,h,hb⟩
attribute [local irreducible] placeM linesM relM stepsM edgesM
set_option maxHeartbeats 8000000 in
set_option maxRecDepth 100000 in
theorem r21of_any(gv:Value)(xs:List LaidP)(file:VidM)(w:World)(hv:Pats w gv xs)(hn:xs.length≤300)(hl:∀ x∈xs,x.p.ops.length≤260)(hw:WfG (patsOf xs))(hil:(idsM (patsOf xs)).length≤65536)(hel:(edgesM (patsOf xs)).length≤100000) :
  Calls Tryz.prog 19 #[rgV gv,vidV file] w (R21Res w (linesM (patsOf xs) file) (relM (patsOf xs) file)):=by
 have hvl:(vertsM (patsOf xs)).length≤100000:=by unfold vertsM;rw [List.length_map];omega
 have HLs:=Lib.hid hl
 obtain⟨ga,gc,rfl,_,_,_⟩:=hv.1.at encPat_len
 have HB0a:=(bnew (w:=w) (.cells #[.slice ga xs.length gc] 35)).alloc (by simp) (.cells #[.int .u8 file.pid.author.toNat,.int .u16 file.pid.seq.toNat,.int .u8 file.n.toNat] 40)
 have HB0:=Lib.hid (HB0a.alloc (by simp;omega) (.cells #[.slice none 0 0,.int .i64 0,.slice none 0 0] 52))
 have HG:=Lib.hid (((anw w #[.slice ga xs.length gc] 35).alloc (.cells #[.int .u8 file.pid.author.toNat,.int .u16 file.pid.seq.toNat,.int .u8 file.n.toNat] 40)).alloc (.cells #[.slice none 0 0,.int .i64 0,.slice none 0 0] 52))
 have HF:=Lib.hid ((an2 w (.cells #[.slice ga xs.length gc] 35) #[.int .u8 file.pid.author.toNat,.int .u16 file.pid.seq.toNat,.int .u8 file.n.toNat] 40).alloc (.cells #[.slice none 0 0,.int .i64 0,.slice none 0 0] 52))
 have HZ:=Lib.hid (arr_new3 w (.cells #[.slice ga xs.length gc] 35) (.cells #[.int .u8 file.pid.author.toNat,.int .u16 file.pid.seq.toNat,.int .u8 file.n.toNat] 40) #[.slice none 0 0,.int .i64 0,.slice none 0 0] 52)
 have HZt:=Lib.hid (show ArrT (((w.alloc (.cells #[.slice ga xs.length gc] 35)).alloc (.cells #[.int .u8 file.pid.author.toNat,.int .u16 file.pid.seq.toNat,.int .u8 file.n.toNat] 40)).alloc (.cells #[.slice none 0 0,.int .i64 0,.slice none 0 0] 52)) (w.heap.size+1+1) 52 [.slice none 0 0,.int .i64 0,.slice none 0 0] from(show((w.alloc (.cells #[.slice ga xs.length gc] 35)).alloc (.cells #[.int .u8 file.pid.author.toNat,.int .u16 file.pid.seq.toNat,.int .u8 file.n.toNat] 40)).heap.size=w.heap.size+1+1 by simp)▸arrT_new ((w.alloc (.cells #[.slice ga xs.length gc] 35)).alloc (.cells #[.int .u8 file.pid.author.toNat,.int .u16 file.pid.seq.toNat,.int .u8 file.n.toNat] 40)) [.slice none 0 0,.int .i64 0,.slice none 0 0] 52)
 have HV:=Lib.hid (hv.over HB0.out)
 have hll:=lines_few (file:=file) hil
 have hrf:(relM (patsOf xs) file).length≤1000000:=by rw [relM_length];exact steps_few (by omega)
 have HRLn:=Lib.hid (relM_length (patsOf xs) file)
 have HAt:=Lib.hid (fun k e=>@relM_at (patsOf xs) file k e)
 have HEn:=Lib.hid (fun e=>@step_ends (patsOf xs) hw (wf_len hw) file e)
 have HLt:=Lib.hid (relM_lt hw (wf_len hw) file)
 have HLM:=Lib.hid (linesM_eq (patsOf xs) file)
 clear hv hl hw HB0a
 unfold rgV vidV
 go_enter Tryz.func19,Tryz.ntmps19
 go_upto_region 1 with(fail)
 generalize hw0:((w.alloc (.cells #[.slice ga xs.length gc] 35)).alloc (.cells #[.int .u8 file.pid.author.toNat,.int .u16 file.pid.seq.toNat,.int .u8 file.n.toNat] 40)).alloc (.cells #[.slice none 0 0,.int .i64 0,.slice none 0 0] 52)=w0 at *
 clear hw0
 have g0:=HG.out.cell (j:=0) rfl
 have sg:=HG.out.lt
 have f0:=HF.out.cell (j:=0) rfl
 have f1:=HF.out.cell (j:=1) rfl
 have f2:=HF.out.cell (j:=2) rfl
 have sf:=HF.out.lt
 go_wp2_with fail
 refine(rof20_any _ xs file 3 _ HV.out hn HLs.out (by omega) hvl).mono ?_
 rintro e w1 ⟨lv,rfl,ho1,hb1⟩
 rw [HLM.out] at ho1
 obtain⟨lp,lc,rfl,z1,z2,_⟩:=ho1.at encVert_len
 unfold maxLen at z2
 have HO1:=Lib.hid ho1
 have HB1:=Lib.hid hb1
 have HG1:=Lib.hid (HG.out.over hb1)
 have HF1:=Lib.hid (HF.out.over hb1)
 have HZ1:=Lib.hid (HZ.out.over hb1)
 clear ho1 hb1 g0 sg f0 f1 f2 sf
 have g0:=HG1.out.cell (j:=0) rfl
 have sg:=HG1.out.lt
 have f0:=HF1.out.cell (j:=0) rfl
 have f1:=HF1.out.cell (j:=1) rfl
 have f2:=HF1.out.cell (j:=2) rfl
 have sf:=HF1.out.lt
 go_wp2_with fail
 refine(rsteps20_any _ xs file _ (HV.out.over HB1.out) hn HLs.out hel).mono ?_
 rintro e w2 ⟨ev,rfl,ho2,hb2⟩
 obtain⟨ep,ec,rfl,y1,y2,hce⟩:=ho2.at encEdge_len
 unfold maxLen at y2
 have HCE:=Lib.hid hce
 have HO2:=Lib.hid (HO1.out.over hb2)
 have HB2:=Lib.hid (bov HB1.out HB1.out.size hb2)
 have HZ2:=Lib.hid (HZ1.out.over hb2)
 clear ho2 hb2 hce g0 sg f0 f1 f2 sf
 rw [← HRLn.out] at y1 ⊢
 generalize linesM (patsOf xs) file=l at *
 go_wp2_with fail
 go_loopw [7,8] (fun v7 v8 wr=>LoRel w2 (relM (patsOf xs) file) v7 v8 wr) (fun _ v8 _=>(relM (patsOf xs) file).length - (intOf v8).toNat)
 case atStart=>exact⟨0,by omega,rfl,Lib.hid (by rw [List.take_zero];exact gown_nil _ _),Below.refl _ _⟩
 case round =>
  obtain⟨k,hk,rfl,HM,hbl⟩:=hrel
  rename World=>wr
  by_cases hlt:k<(relM (patsOf xs) file).length
  ·
   obtain⟨b3,off3,rfl,sb3,hcb⟩:=HCE.out.resolve_left (by rw [← HRLn.out];omega)
   obtain⟨x,hx⟩:=gol (xs:=stepsM (patsOf xs) file) (i:=k) (by rw [← HRLn.out];exact hlt)
   have HX:=Lib.hid (HAt.out k x hx)
   obtain⟨hm1,hm2⟩:=HEn.out x (List.mem_of_getElem? hx)
   have HM1:=Lib.hid hm1
   have HM2:=Lib.hid hm2
   have HRx:=Lib.hid (hcb k x hx wr hbl.out)
   have HOr:=Lib.hid (HO2.out.over hbl.out)
   have x0:wr.cell? ⟨b3,off3+k*6,none⟩=some (.int .u8 x.1.pid.author.toNat):=(HRx.out).2 0 _ rfl
   have x1:wr.cell? ⟨b3,off3+k*6+1,none⟩=some (.int .u16 x.1.pid.seq.toNat):=(HRx.out).2 1 _ rfl
   have x2:wr.cell? ⟨b3,off3+k*6+2,none⟩=some (.int .u8 x.1.n.toNat):=(HRx.out).2 2 _ rfl
   have x3:wr.cell? ⟨b3,off3+k*6+3,none⟩=some (.int .u8 x.2.pid.author.toNat):=(HRx.out).2 3 _ rfl
   have x4:wr.cell? ⟨b3,off3+k*6+4,none⟩=some (.int .u16 x.2.pid.seq.toNat):=(HRx.out).2 4 _ rfl
   have x5:wr.cell? ⟨b3,off3+k*6+5,none⟩=some (.int .u8 x.2.n.toNat):=(HRx.out).2 5 _ rfl
   have sx:=HRx.out.1
   have hN7:((relM (patsOf xs) file).take k).length+1≤1099511627776:=by rw [List.length_take];omega
   clear hcb hx hm1 hm2
   go_wp2_with fail
   have hcur:Below wr.heap.size wr wr.drew:=(Below.refl _ _).drew
   refine wlex (C:=IsOver wr) 17 [] (by kernel_rfl) (by kernel_rfl) (iov hcur) ?_
   simp only [List.take_succ_cons,List.take_zero,List.drop_succ_cons,List.drop_zero]
   repeat(first|(refine lxs rfl rfl ?_;simp only [Act.put,List.setIfInBounds_toArray,List.set_cons_succ,List.set_cons_zero])|(refine lxo rfl ?_;go_big_quiet_step (fail);refine wpQuiet_nil ?_)|(refine lxl rfl ?_;go_wp2_with (first|(go_at_call 60;(first|(with_reducible refine(r21place_any _ l x.1 _ (HOr.out.over hcur) HM1.out).mono ?_)|(with_reducible refine(r21place_any _ l x.2 _ (HOr.out.over hcur) HM2.out).mono ?_));rintro e w' ⟨rfl,hb⟩;replace hcur:=bov hcur hcur.size hb;clear hb));refine⟨iov (by first|exact hcur|exact hcur.alloc hcur.size _),?_⟩))
   refine lxe ?_
   have HM8:=Lib.hid (HM.out.over hcur)
   have HB8:=Lib.hid (bov hbl.out hbl.out.size hcur)
   have hB8:=HB8.out.size
   clear hcur x0 x1 x2 x3 x4 x5 sx
   go_wp2_with (at_builtin;(first|refine apD slPair rfl _ _ rfl w2.heap.size _ _ (dad _ _ _) 1 _ _ _ HM8.out rfl rfl rfl rfl hN7 (by decide) hB8 ?_|refine apD slPair rfl _ _ rfl w2.heap.size _ _ (ddw _) 1 _ _ _ HM8.out rfl rfl rfl rfl hN7 (by decide) hB8 ?_|refine apD slPair rfl _ _ rfl w2.heap.size _ _ (ddn _ _) 1 _ _ _ HM8.out rfl rfl rfl rfl hN7 (by decide) hB8 ?_|refine apD slPair rfl _ _ rfl w2.heap.size _ _ (drf _) 1 _ _ _ HM8.out rfl rfl rfl rfl hN7 (by decide) hB8 ?_);intro v9 w9 ho9 hg9)
   go_roundw
   case rel=>exact⟨k+1,hlt,by go_num,Lib.hid (take_snoc HX.out (GOwn.snoc ho9)),bgr HB8.out hB8 HM8.out hg9⟩
   case measure=>simp [intOf];omega
  ·
   obtain rfl:k=(relM (patsOf xs) file).length:=by omega
   have hE:=HM.out
   rw [List.take_length] at hE
   have HE:=Lib.hid hE
   obtain⟨rp,rc,rfl,t1,t2,_⟩:=prow_at hE.row
   unfold maxLen at t2
   clear hE HM
   go_wp2_with fail
   refine(r8of_any l.length _ (relM (patsOf xs) file) _ HE.out.row HLt.out hll hrf).mono ?_
   rintro e w4 ⟨u,rfl,ho4,hb4⟩
   obtain⟨up,uc,rfl,_,_,_⟩:=prow_at ho4.row
   have HUo:=Lib.hid ho4
   have HZT:=Lib.hid ((HZt.out.over (bov HB2.out HB2.out.size hbl.out)).over hb4)
   have HBf:=Lib.hid (bov HB0.out HB0.out.size (bov HB2.out HB2.out.size (bov hbl.out hbl.out.size hb4)))
   have HO4:=Lib.hid ((HO2.out.over hbl.out).over hb4)
   have HZ4:=Lib.hid ((HZ2.out.over hbl.out).over hb4)
   clear ho4 hb4
   have q0:=HZ4.out.cell (j:=0) rfl
   have q1:=HZ4.out.cell (j:=1) rfl
   have q2:=HZ4.out.cell (j:=2) rfl
   have qf0:=HZ4.out.free 0
   have qf1:=HZ4.out.free 1
   have qf2:=HZ4.out.free 2
   have sq:=HZ4.out.lt
   have hrow:=Row.other (show Row _ _ _ _ _ from HO4.out) HZ4.out (by simp) (gtr (gtr (gsc (g:=w.heap.size+1+1) w4 0 (.slice lp l.length lc)) (gsc _ 1 (.int .i64 l.length))) (gsc _ 2 (.slice up (relM (patsOf xs) file).length uc)))
   have HRw:=Lib.hid hrow
   have hho:GOwn encP 2 114 (((w4.setCell ⟨w.heap.size+1+1,0,none⟩ (.slice lp l.length lc)).setCell ⟨w.heap.size+1+1,1,none⟩ (.int .i64 l.length)).setCell ⟨w.heap.size+1+1,2,none⟩ (.slice up (relM (patsOf xs) file).length uc)) _ (.slice up (relM (patsOf xs) file).length uc) (relM (patsOf xs) file):=
    own_kept (own_kept (own_kept HUo.out (gsc _ _ _) (HZT.out.ne HUo.out (by decide))) (gsc _ _ _) (HZT.out.ne HUo.out (by decide))) (gsc _ _ _) (HZT.out.ne HUo.out (by decide))
   have HUf:=Lib.hid hho.row
   have HBg:=Lib.hid (((HBf.out.setCell (p:=⟨w.heap.size+1+1,0,none⟩) (by show w.heap.size≤w.heap.size+1+1;omega) (.slice lp l.length lc)).setCell (p:=⟨w.heap.size+1+1,1,none⟩) (by show w.heap.size≤w.heap.size+1+1;omega) (.int .i64 l.length)).setCell (p:=⟨w.heap.size+1+1,2,none⟩) (by show w.heap.size≤w.heap.size+1+1;omega) (.slice up (relM (patsOf xs) file).length uc))
   clear hrow hho
   go_wp2_with fail
   refine bodyPost_ret (v:=rsV (.slice lp l.length lc) l.length (.slice up (relM (patsOf xs) file).length uc)) (results_arr rowSh rfl (((HZ4.out.set 0 _).set 1 _).set 2 _) rfl rfl) rfl ?_
   exact r21_mk ⟨HRw.out,HUf.out,by omega,HLt.out,hrf⟩ HBg.out
end Go.Proofs.YtllcipobiengiaaGreat
namespace Go.Proofs.YtllcipobiengiaaGreat
open Go Go.RowKit

theorem own_sep{α β:Type}{enc:α→List Value}{enc':β→List Value}{sz sz':Nat}{e e':TypeId}{w:World}{B B':Nat}{v v':Value}{xs:List α}{ys:List β}(h:GOwn enc sz e w B v xs)(h':GOwn enc' sz' e' w B' v' ys)(hn:e≠e'):v.ownBlock=none∨v.ownBlock≠v'.ownBlock:=by
 rcases h.2 with⟨rfl,_⟩|⟨g,cap,cur,rfl,_,hg,_⟩
 ·
  exact .inl rfl
 ·
  rcases h'.2 with⟨rfl,_⟩|⟨g',cap',cur',rfl,_,hg',_⟩
  ·
   exact .inr (fun q=>by cases q)
  ·
   refine .inr (fun q => ?_)
   simp only [Value.ownBlock,Option.some.injEq] at q
   subst q
   rw [hg] at hg'
   simp only [Option.some.injEq,Obj.cells.injEq] at hg'
   exact hn hg'.2.1
theorem own_by{α β:Type}{enc:α→List Value}{enc':β→List Value}{sz sz':Nat}{e e':TypeId}{w w':World}{B B':Nat}{v v':Value}{xs:List α}{ys:List β}(h:GOwn enc sz e w B v xs)(h':GOwn enc' sz' e' w B' v' ys)(hn:e≠e')(hg:w.grownBy w' v'.ownBlock):GOwn enc sz e w' B v xs:=
 own_grown h hg (own_sep h h' hn)
def markV(ms:List Bool):List Value:=ms.map .bool
theorem markV_get{ms:List Bool}{k:Nat}{b:Bool}(h:ms[k]? = some b):(markV ms)[k]? = some (.bool b):=by unfold markV;rw [List.getElem?_map,h];rfl
theorem markV_set(ms:List Bool)(k:Nat)(b:Bool):(markV ms).set k (.bool b)=markV (ms.set k b):=by unfold markV;rw [List.map_set]
theorem markV_zero(n:Nat):markV (List.replicate n false)=List.replicate n (.bool false):=by unfold markV;rw [List.map_replicate]
theorem slzBoolE:SlZ Tryz.prog 120 4 (.bool false) 1:=slZ_of Tryz.underlying120 (by kernel_rfl) rfl
theorem sown_form{w:World}{B:Nat}{e:TypeId}{v:Value}{xs:List ByteArray}(h:GOwn encS1 1 e w B v xs):∃ p c,v=.slice p xs.length c:=by
 obtain⟨a,cap,e1,_⟩:=h.row.at encS1_len
 exact⟨a,cap,e1⟩
theorem dvown_form{w:World}{B:Nat}{e:TypeId}{v:Value}{xs:List VidM}(h:GOwn encVid 3 e w B v xs):∃ p c,v=.slice p xs.length c:=by
 obtain⟨a,cap,e1,_⟩:=h.row.at encVid_len
 exact⟨a,cap,e1⟩
noncomputable def ftx(l:List VertM)(R:List (Nat × Nat))(k:Nat):List ByteArray:=(firmTo l R k).map (textAt l)
theorem ftx_zero(l:List VertM)(R:List (Nat × Nat)):ftx l R 0=[]:=by unfold ftx;rw [firmTo_zero];rfl
theorem ftx_all(l:List VertM)(R:List (Nat × Nat)):ftx l R (aliveX l R).length=(firmX l R).map (textAt l):=by unfold ftx;rw [firmTo_all]
theorem ftx_yes{l:List VertM}{R:List (Nat × Nat)}{k i:Nat}{x:VertM}(h:(aliveX l R)[k]? = some i)(hf:firmB R l.length i=true)(hx:l[i]? = some x):ftx l R (k+1)=ftx l R k++[x.text]:=by unfold ftx;rw [firmTo_yes h hf,List.map_append,List.map_cons,List.map_nil,textAt_get hx]
theorem ftx_no{l:List VertM}{R:List (Nat × Nat)}{k i:Nat}(h:(aliveX l R)[k]? = some i)(hf:firmB R l.length i=false):ftx l R (k+1)=ftx l R k:=by unfold ftx;rw [firmTo_no h hf]
theorem ftx_len(l:List VertM)(R:List (Nat × Nat))(k:Nat):(ftx l R k).length≤l.length:=by unfold ftx;rw [List.length_map];exact firmTo_len l R k
/-- the firm lines and their texts under way -/
structure FmTx (wr w1:World) (l:List VertM) (R:List (Nat × Nat)) (k:Nat) (v12 v13:Value):Prop where
 firm:GOwn encI 1 3 wr w1.heap.size v12 (firmTo l R k)
 text:GOwn encS1 1 9 wr w1.heap.size v13 (ftx l R k)
 below:Below w1.heap.size w1 wr
theorem FmTx.over{wr w1 w2:World}{l:List VertM}{R:List (Nat × Nat)}{k:Nat}{v12 v13:Value}(h:FmTx wr w1 l R k v12 v13)(hb:Below wr.heap.size wr w2):FmTx w2 w1 l R k v12 v13:=⟨h.firm.over hb,h.text.over hb,bov h.below h.below.size hb⟩
/-- what kept and made lines there are, under way -/
structure MkAt (wr w1:World) (gB gT:Nat) (ms:List Bool) (ks:List Int):Prop where
 marks:ArrT wr gB 4 (markV ms)
 kept:ArrT wr gT 3 (keptV1 ks)
 below:Below w1.heap.size w1 wr
theorem MkAt.over{wr w1 w2:World}{gB gT:Nat}{ms:List Bool}{ks:List Int}(h:MkAt wr w1 gB gT ms ks)(hb:Below wr.heap.size wr w2):MkAt w2 w1 gB gT ms ks:=⟨h.marks.over hb,h.kept.over hb,bov h.below h.below.size hb⟩
theorem MkAt.mark{wr w1:World}{gB gT:Nat}{ms:List Bool}{ks:List Int}(h:MkAt wr w1 gB gT ms ks)(hg:w1.heap.size≤gB)(k:Nat)(b:Bool):MkAt (wr.setCell ⟨gB,k,none⟩ (.bool b)) w1 gB gT (ms.set k b) ks:=
 ⟨by rw [← markV_set];exact h.marks.set k _,h.kept.set_other (fun e=>(h.marks.ne_type h.kept (by decide)) e.symm) _,h.below.setCell (p:=⟨gB,k,none⟩) hg _⟩
theorem MkAt.keep{wr w1:World}{gB gT:Nat}{ms:List Bool}{ks:List Int}(h:MkAt wr w1 gB gT ms ks)(hg:w1.heap.size≤gT)(k:Nat)(x:Int):MkAt (wr.setCell ⟨gT,k,none⟩ (.int .i64 x)) w1 gB gT ms (ks.set k x):=
 ⟨h.marks.set_other (h.marks.ne_type h.kept (by decide)) _,by rw [← keptV1_set];exact h.kept.set k _,h.below.setCell (p:=⟨gT,k,none⟩) hg _⟩
/-- with operations under way -/
structure MkOp (wr w1:World) (gB gT:Nat) (ms:List Bool) (ks:List Int) (p:Option Addr) (c:Nat) (ops:List OpM):Prop where
 ma:MkAt wr w1 gB gT ms ks
 own:GOwn encOp 8 58 wr w1.heap.size (.slice p ops.length c) ops
theorem MkOp.over{wr w1 w2:World}{gB gT:Nat}{ms:List Bool}{ks:List Int}{p:Option Addr}{c:Nat}{ops:List OpM}(h:MkOp wr w1 gB gT ms ks p c ops)(hb:Below wr.heap.size wr w2):MkOp w2 w1 gB gT ms ks p c ops:=⟨h.ma.over hb,h.own.over hb⟩
theorem MkOp.op{wr w1 w9:World}{gB gT:Nat}{ms:List Bool}{ks:List Int}{p p9:Option Addr}{c c9:Nat}{ops ops9:List OpM}(h:MkOp wr w1 gB gT ms ks p c ops)(ho:GOwn encOp 8 58 w9 w1.heap.size (.slice p9 ops9.length c9) ops9)(hg:wr.grownBy w9 (Value.slice p ops.length c).ownBlock):MkOp w9 w1 gB gT ms ks p9 c9 ops9:=
 ⟨⟨h.ma.marks.kept hg (h.ma.marks.ne h.own (by decide)),h.ma.kept.kept hg (h.ma.kept.ne h.own (by decide)),bgr h.ma.below h.ma.below.size h.own hg⟩,ho⟩
/-- .. and names -/
structure MkNm (wr w1:World) (gB gT:Nat) (ms:List Bool) (ks:List Int) (p:Option Addr) (c:Nat) (ops:List OpM) (p':Option Addr) (c':Nat) (at':List VidM):Prop where
 mo:MkOp wr w1 gB gT ms ks p c ops
 names:GOwn encVid 3 40 wr w1.heap.size (.slice p' at'.length c') at'
theorem MkNm.over{wr w1 w2:World}{gB gT:Nat}{ms:List Bool}{ks:List Int}{p p':Option Addr}{c c':Nat}{ops:List OpM}{at':List VidM}(h:MkNm wr w1 gB gT ms ks p c ops p' c' at')(hb:Below wr.heap.size wr w2):MkNm w2 w1 gB gT ms ks p c ops p' c' at':=⟨h.mo.over hb,h.names.over hb⟩
theorem MkNm.op{wr w1 w9:World}{gB gT:Nat}{ms:List Bool}{ks:List Int}{p p' p9:Option Addr}{c c' c9:Nat}{ops ops9:List OpM}{at':List VidM}(h:MkNm wr w1 gB gT ms ks p c ops p' c' at')(ho:GOwn encOp 8 58 w9 w1.heap.size (.slice p9 ops9.length c9) ops9)(hg:wr.grownBy w9 (Value.slice p ops.length c).ownBlock):MkNm w9 w1 gB gT ms ks p9 c9 ops9 p' c' at':=
 ⟨h.mo.op ho hg,own_by h.names h.mo.own (by decide) hg⟩
theorem MkNm.name{wr w1 w9:World}{gB gT:Nat}{ms:List Bool}{ks:List Int}{p p' p9:Option Addr}{c c' c9:Nat}{ops:List OpM}{at' at9:List VidM}(h:MkNm wr w1 gB gT ms ks p c ops p' c' at')(ho:GOwn encVid 3 40 w9 w1.heap.size (.slice p9 at9.length c9) at9)(hg:wr.grownBy w9 (Value.slice p' at'.length c').ownBlock):MkNm w9 w1 gB gT ms ks p c ops p9 c9 at9:=
 ⟨⟨⟨h.mo.ma.marks.kept hg (h.mo.ma.marks.ne h.names (by decide)),h.mo.ma.kept.kept hg (h.mo.ma.kept.ne h.names (by decide)),bgr h.mo.ma.below h.mo.ma.below.size h.names hg⟩,own_by h.mo.own h.names (by decide) hg⟩,ho⟩
theorem vown_more{w:World}{B:Nat}{e:TypeId}{v:Value}{xs ys:List VidM}{o:VidM}(h:GOwn encVid 3 e w B v (xs++[o]))(hy:ys=xs++[o]):∃(p:Option Addr) (c:Nat),v=.slice p ys.length c∧GOwn encVid 3 e w B v ys:=by
 subst hy
 obtain⟨p,c,e⟩:=dvown_form h
 exact⟨p,c,e,h⟩
end Go.Proofs.YtllcipobiengiaaGreat
namespace Go.Proofs.YtllcipobiengiaaGreat
open Go Go.RowKit

def LaRel(w1:World)(l:List VertM)(R:List (Nat × Nat))(v12 v13 v14:Value)(wr:World):Prop:=∃ k:Nat,k≤(aliveX l R).length∧v14=.int .i64 k∧Hid (FmTx wr w1 l R k v12 v13)
def LbRel(w1:World)(gB gT n m:Nat)(v18:Value)(wr:World):Prop:=∃ j:Nat,j≤m∧v18=.int .i64 j∧Hid (MkAt wr w1 gB gT (List.replicate n false) (minus j m))
def LcRel(w1:World)(gB gT n m:Nat)(firm:List Nat)(ps:List (Nat × Nat))(v19:Value)(wr:World):Prop:=∃ k:Nat,k≤ps.length∧v19=.int .i64 k∧Hid (MkAt wr w1 gB gT (marksTo firm (ps.take k) n) (keptTo firm (ps.take k) m))
def LdRel(w3:World)(gB gT:Nat)(l:List VertM)(al:List Nat)(ms:List Bool)(ks:List Int)(v20 v21:Value)(wr:World):Prop:=∃(q:Nat) (ops:List OpM) (p:Option Addr) (c:Nat),q≤al.length∧v21=.int .i64 q∧v20=.slice p ops.length c∧Hid (ops=killsE l (al.take q) ks)∧Hid (MkOp wr w3 gB gT ms ks p c ops)
def LeRel(w3:World)(gB gT:Nat)(l:List VertM)(file:VidM)(id:PidM)(from':Nat)(ms:List Bool)(ks:List Int)(want:List ByteArray)(kl:List OpM)(m:Nat)(v20 v22 v23:Value)(wr:World):Prop:=
 ∃(j:Nat) (ops:List OpM) (at':List VidM) (p:Option Addr) (c:Nat) (p':Option Addr) (c':Nat),j≤m∧v23=.int .i64 j∧v20=.slice p ops.length c∧v22=.slice p' at'.length c'∧Hid ((ops,at')=addsTo l file id from' ks want kl j)∧Hid (MkNm wr w3 gB gT ms ks p c ops p' c' at')
def LfRel(w3:World)(gB gT:Nat)(R:List (Nat × Nat))(ms:List Bool)(ks:List Int)(at':List VidM)(ops0:List OpM)(m:Nat)(p':Option Addr)(c':Nat)(v20 v24:Value)(wr:World):Prop:=
 ∃(q:Nat) (ops:List OpM) (p:Option Addr) (c:Nat),(q+1≤m∨q=0)∧v24=.int .i64 ((q:Int)+1)∧v20=.slice p ops.length c∧Hid (ops=ops0++tiesTo R ks at' (q+1))∧Hid (MkNm wr w3 gB gT ms ks p c ops p' c' at')
attribute [local irreducible] keptV1 markV minus keptTo marksTo textAt firmX aliveX firmTo ftx firmB killsE addsTo tiesTo
set_option maxHeartbeats 40000000 in
set_option maxRecDepth 100000 in
theorem r27ops_any(lv sv wv:Value)(l:List VertM)(R:List (Nat × Nat))(file:VidM)(id:PidM)(from':Nat)(want:List ByteArray)(w:World)(h:RSh w lv sv l R)(hl:l.length≤1000)(hw:SRow w wv want)(hm:want.length≤1000)(hf:from'≤1000000) :
  Calls Tryz.prog 18 #[rsV lv l.length sv,vidV file,pidV id,.int .i64 from',wv] w (OwnRes encOp 8 58 w (editM l R (aliveX l R) (firmX l R) file id from' want (pairs ((firmX l R).map (textAt l)) want))):=by
 rw [edit_eq]
 obtain⟨lp,lc,sp,sc,rfl,rfl,hlc⟩:=h.form
 unfold maxLen at hlc
 have HBX:=((bnew (w:=w) (.cells #[.slice lp l.length lc,.int .i64 l.length,.slice sp R.length sc] 52)).alloc (by simp) (.cells #[.int .u8 file.pid.author.toNat,.int .u16 file.pid.seq.toNat,.int .u8 file.n.toNat] 40)).alloc (by simp;omega) (.cells #[.int .u8 id.author.toNat,.int .u16 id.seq.toNat] 26)
 have HS:=Lib.hid (h.over HBX)
 have HW:=Lib.hid (hw.over HBX)
 have HG:=Lib.hid (((anw w #[.slice lp l.length lc,.int .i64 l.length,.slice sp R.length sc] 52).alloc (.cells #[.int .u8 file.pid.author.toNat,.int .u16 file.pid.seq.toNat,.int .u8 file.n.toNat] 40)).alloc (.cells #[.int .u8 id.author.toNat,.int .u16 id.seq.toNat] 26))
 have HF:=Lib.hid ((an2 w (.cells #[.slice lp l.length lc,.int .i64 l.length,.slice sp R.length sc] 52) #[.int .u8 file.pid.author.toNat,.int .u16 file.pid.seq.toNat,.int .u8 file.n.toNat] 40).alloc (.cells #[.int .u8 id.author.toNat,.int .u16 id.seq.toNat] 26))
 have HI:=Lib.hid (arr_new3 w (.cells #[.slice lp l.length lc,.int .i64 l.length,.slice sp R.length sc] 52) (.cells #[.int .u8 file.pid.author.toNat,.int .u16 file.pid.seq.toNat,.int .u8 file.n.toNat] 40) #[.int .u8 id.author.toNat,.int .u16 id.seq.toNat] 26)
 have HB:=Lib.hid HBX
 obtain⟨wa,wc,rfl,z1,z2,_⟩:=SRow.form hw
 unfold maxLen at z2
 clear h hw HBX
 unfold rsV vidV pidV
 go_enter Tryz.func18,Tryz.ntmps18
 go_upto_region 1 with(fail)
 generalize hw0:((w.alloc (.cells #[.slice lp l.length lc,.int .i64 l.length,.slice sp R.length sc] 52)).alloc (.cells #[.int .u8 file.pid.author.toNat,.int .u16 file.pid.seq.toNat,.int .u8 file.n.toNat] 40)).alloc (.cells #[.int .u8 id.author.toNat,.int .u16 id.seq.toNat] 26)=w0 at *
 clear hw0
 have g0:=HG.out.cell (j:=0) rfl
 have g1:=HG.out.cell (j:=1) rfl
 have g2:=HG.out.cell (j:=2) rfl
 have sg:=HG.out.lt
 go_wp2_with fail
 refine(r21alive_any _ _ l R _ HS.out).mono ?_
 rintro e w1 ⟨av,rfl,ho1,hb1⟩
 obtain⟨aa,ac,rfl,y1,y2,hca⟩:=irow_at ho1.row
 unfold maxLen at y2
 have HA:=Lib.hid ho1
 have HCA:=Lib.hid hca
 have HB1:=Lib.hid hb1
 have HG1:=Lib.hid (HG.out.over hb1)
 have HS1:=Lib.hid (HS.out.over hb1)
 have hal:=aliveX_len l R
 clear ho1 hb1 hca g0 g1 g2 sg
 go_wp2_with fail
 go_loopw [12,13,14] (fun v12 v13 v14 wr=>LaRel w1 l R v12 v13 v14 wr) (fun _ _ v14 _=>(aliveX l R).length - (intOf v14).toNat)
 case atStart=>exact⟨0,by omega,rfl,⟨by rw [firmTo_zero];exact gown_nil _ _,by rw [ftx_zero];exact gown_nil _ _,Below.refl _ _⟩⟩
 case round =>
  obtain⟨k,hk,rfl,HM⟩:=hrel
  rename World=>wr
  have HGr:=Lib.hid (HG1.out.over HM.out.below)
  have HSr:=Lib.hid (HS1.out.over HM.out.below)
  have g0:=HGr.out.cell (j:=0) rfl
  have g1:=HGr.out.cell (j:=1) rfl
  have g2:=HGr.out.cell (j:=2) rfl
  have sg:=HGr.out.lt
  have hfl:=firmTo_len l R k
  have hxl:=ftx_len l R k
  by_cases hlt:k<(aliveX l R).length
  ·
   obtain⟨b,off,rfl,sb,hcb⟩:=HCA.out.resolve_left (by omega)
   obtain⟨i,hi⟩:=gol hlt
   obtain⟨sx,x0⟩:=hcb k i hi _ HM.out.below
   have hil:=aliveX_lt (List.mem_of_getElem? hi)
   obtain⟨x,hx⟩:=gol hil
   have HX:=Lib.hid hx
   have HIx:=Lib.hid hi
   have HCb:=Lib.hid hcb
   clear hcb hi hx
   cases hfb:firmB R l.length i with
   | false =>
    have HV:=Lib.hid hfb
    have HN1:=Lib.hid (firmTo_no HIx.out hfb)
    have HN2:=Lib.hid (ftx_no HIx.out hfb)
    clear hfb
    go_wp2_with fail
    have hcur:Below wr.heap.size wr wr.drew:=(Below.refl _ _).drew
    refine wlex (C:=IsOver wr) 6 [] (by kernel_rfl) (by kernel_rfl) (iov hcur) ?_
    simp only [List.take_succ_cons,List.take_zero,List.drop_succ_cons,List.drop_zero]
    repeat(first|(refine lxs rfl rfl ?_;simp only [Act.put,List.setIfInBounds_toArray,List.set_cons_succ,List.set_cons_zero])|(refine lxo rfl ?_;go_big_quiet_step (fail);refine wpQuiet_nil ?_)|(refine lxl rfl ?_;go_wp2_with (first|(go_at_call 54;(with_reducible refine(r21firm_any _ _ l R i _ (HSr.out.over hcur) hil).mono ?_);rintro e w' ⟨rfl,hb⟩;rw [HV.out];replace hcur:=bov hcur hcur.size hb;clear hb));refine⟨iov hcur,?_⟩))
    refine lxe ?_
    have HM2:=Lib.hid (HM.out.over hcur)
    clear hcur g0 g1 g2 sg x0 sx
    go_wp2_with fail
    go_roundw
    case rel=>exact⟨k+1,hlt,by go_num,⟨by rw [HN1.out];exact HM2.out.firm,by rw [HN2.out];exact HM2.out.text,HM2.out.below⟩⟩
    case measure=>simp [intOf];omega
   | true =>
    have HV:=Lib.hid hfb
    have HN1:=Lib.hid (firmTo_yes HIx.out hfb)
    have HN2:=Lib.hid (ftx_yes HIx.out hfb HX.out)
    have hN1:(firmTo l R k).length+1≤1099511627776:=by omega
    have hN2:(ftx l R k).length+1≤1099511627776:=by omega
    clear hfb
    go_wp2_with fail
    have hcur:Below wr.heap.size wr wr.drew:=(Below.refl _ _).drew
    refine wlex (C:=IsOver wr) 6 [] (by kernel_rfl) (by kernel_rfl) (iov hcur) ?_
    simp only [List.take_succ_cons,List.take_zero,List.drop_succ_cons,List.drop_zero]
    repeat(first|(refine lxs rfl rfl ?_;simp only [Act.put,List.setIfInBounds_toArray,List.set_cons_succ,List.set_cons_zero])|(refine lxo rfl ?_;go_big_quiet_step (fail);refine wpQuiet_nil ?_)|(refine lxl rfl ?_;go_wp2_with (first|(go_at_call 54;(with_reducible refine(r21firm_any _ _ l R i _ (HSr.out.over hcur) hil).mono ?_);rintro e w' ⟨rfl,hb⟩;rw [HV.out];replace hcur:=bov hcur hcur.size hb;clear hb));refine⟨iov hcur,?_⟩))
    refine lxe ?_
    have HM2:=Lib.hid (HM.out.over hcur)
    clear hcur g0 g1 g2 sg x0 sx
    rename World=>w2
    obtain⟨sx,x0⟩:=HCb.out k i HIx.out _ HM2.out.below
    have hB2:=HM2.out.below.size
    have HFo:=Lib.hid HM2.out.firm
    go_upto_region 9 with(at_builtin;(first|refine apD slIntI rfl _ _ rfl w1.heap.size _ _ (dad _ _ _) 1 _ _ _ HFo.out rfl rfl rfl rfl hN1 (by decide) hB2 ?_|refine apD slIntI rfl _ _ rfl w1.heap.size _ _ (ddw _) 1 _ _ _ HFo.out rfl rfl rfl rfl hN1 (by decide) hB2 ?_|refine apD slIntI rfl _ _ rfl w1.heap.size _ _ (ddn _ _) 1 _ _ _ HFo.out rfl rfl rfl rfl hN1 (by decide) hB2 ?_|refine apD slIntI rfl _ _ rfl w1.heap.size _ _ (drf _) 1 _ _ _ HFo.out rfl rfl rfl rfl hN1 (by decide) hB2 ?_);intro v9 w9 ho9 hg9)
    have HF9:=Lib.hid (show GOwn encI 1 3 w9 w1.heap.size v9 (firmTo l R (k+1)) by rw [HN1.out];exact GOwn.snoc ho9)
    have HT9:=Lib.hid (own_by HM2.out.text HFo.out (by decide) hg9)
    have HB9:=Lib.hid (bgr HM2.out.below hB2 HFo.out hg9)
    clear ho9 hg9 x0 sx
    obtain⟨sx,x0⟩:=HCb.out k i HIx.out _ HB9.out
    have HG9:=Lib.hid (HG1.out.over HB9.out)
    have g0:=HG9.out.cell (j:=0) rfl
    have g1:=HG9.out.cell (j:=1) rfl
    have g2:=HG9.out.cell (j:=2) rfl
    have sg:=HG9.out.lt
    obtain⟨a7,c7,e7,q1,q2,hc7⟩:=(HS1.out.over HB9.out).row.at encVert_len
    cases e7
    obtain⟨b7,off7,rfl,sb7,hcb7⟩:=hc7.resolve_left (by omega)
    have s7:=(hcb7 i x HX.out _ (Below.refl _ _)).1
    have x7:w9.cell? ⟨b7,off7+i*9+7,none⟩=some (.string x.text):=(hcb7 i x HX.out _ (Below.refl _ _)).2 7 _ rfl
    have hB9:=HB9.out.size
    go_simp
    have hcur:Below w9.heap.size w9 w9.drew:=(Below.refl _ _).drew
    refine wlex (C:=IsOver w9) 11 [] (by kernel_rfl) (by kernel_rfl) (iov hcur) ?_
    simp only [List.take_succ_cons,List.take_zero,List.drop_succ_cons,List.drop_zero]
    repeat(first|(refine lxs rfl rfl ?_;simp only [Act.put,List.setIfInBounds_toArray,List.set_cons_succ,List.set_cons_zero])|(refine lxo rfl ?_;go_big_quiet_step (fail);refine wpQuiet_nil ?_)|(refine lxl rfl ?_;go_wp2_with (first|(fail));refine⟨iov (by first|exact hcur|exact hcur.alloc hcur.size _),?_⟩))
    refine lxe ?_
    clear hcur
    go_wp2_with (at_builtin;(first|refine apD slStrE rfl _ _ rfl w1.heap.size _ _ (dad _ _ _) 1 _ _ _ HT9.out rfl rfl rfl rfl hN2 (by decide) hB9 ?_|refine apD slStrE rfl _ _ rfl w1.heap.size _ _ (ddw _) 1 _ _ _ HT9.out rfl rfl rfl rfl hN2 (by decide) hB9 ?_|refine apD slStrE rfl _ _ rfl w1.heap.size _ _ (ddn _ _) 1 _ _ _ HT9.out rfl rfl rfl rfl hN2 (by decide) hB9 ?_|refine apD slStrE rfl _ _ rfl w1.heap.size _ _ (drf _) 1 _ _ _ HT9.out rfl rfl rfl rfl hN2 (by decide) hB9 ?_);intro v10 w10 ho10 hg10)
    go_roundw
    case rel=>exact⟨k+1,hlt,by go_num,⟨own_by HF9.out HT9.out (by decide) hg10,by rw [HN2.out];exact GOwn.snoc ho10,bgr HB9.out hB9 HT9.out hg10⟩⟩
    case measure=>simp [intOf];omega
  ·
   obtain rfl:k=(aliveX l R).length:=by omega
   have hF:=HM.out.firm
   rw [firmTo_all] at hF
   have hT:=HM.out.text
   rw [ftx_all] at hT
   obtain⟨tx,htx⟩:∃ tx,tx=(firmX l R).map (textAt l):=⟨_,rfl⟩
   rw [← htx] at hT
   have htl:tx.length=(firmX l R).length:=by rw [htx,List.length_map]
   have htl2:tx.length≤1000:=by rw [htl];exact Nat.le_trans (firmX_len l R) hl
   obtain⟨fp,fc,rfl⟩:=own_form hF
   obtain⟨tp,tc,rfl⟩:=sown_form hT
   obtain⟨m,hmm⟩:∃ m,m=want.length:=⟨_,rfl⟩
   rw [← hmm] at hm ⊢
   have HMM:=Lib.hid hmm
   have HTX:=Lib.hid htx
   have HTL:=Lib.hid htl
   have HF1:=Lib.hid hF
   have HT1:=Lib.hid (srow_of hT.row)
   have HB2:=Lib.hid (bov HB1.out HB1.out.size HM.out.below)
   clear hF hT htx hmm htl g0 g1 g2 sg
   go_wp2_with fail
   refine(rmatch_any _ _ tx want _ HT1.out (by(have hww:=HW.out.over HB2.out);rw [← HMM.out] at hww;exact hww) htl2 (by rw [← HMM.out];exact hm)).mono ?_
   rintro e w3 ⟨mv,Bm,rfl,ho3,hBm1,hBm2,hb3⟩
   have HPI:Hid (∀ p∈pairs tx want,p.1<(firmX l R).length∧p.2<m):=fun p hp=>by
    obtain⟨q1,q2,_⟩:=ePairs_in hp
    rw [HTL.out] at q1
    exact⟨q1,by rw [HMM.out];exact q2⟩
   have HMA:Hid (∀ i,i<l.length→(marksTo (firmX l R) (pairs tx want) l.length)[i]? = some ((keptTo (firmX l R) (pairs tx want) m).contains (Int.ofNat i))):=fun i hi=>by
    rw [HMM.out];exact marks_at HTL.out hi
   have HKI:Hid (∀(j:Nat) (x:Int),(keptTo (firmX l R) (pairs tx want) m)[j]? = some x→x = -1∨∃ i:Nat,x=(i:Int)∧i<l.length):=fun j x hx=>by
    refine kept_is (fun i hi=>firmX_lt hi) ?_ hx
    rcases Nat.eq_zero_or_pos l.length with h0|h0
    ·
     refine .inr (List.eq_nil_iff_forall_not_mem.2 fun p hp => ?_)
     have h1:=(HPI.out p hp).1
     have:=firmX_len l R
     omega
    ·
     exact .inl h0
   obtain⟨ps,hps⟩:∃ ps,ps=pairs tx want:=⟨_,rfl⟩
   rw [← hps] at ho3 HPI HMA HKI
   have HPS:=Lib.hid hps
   have ho3':GOwn encP 2 114 w3 Bm mv ps:=ho3
   obtain⟨mp,mc,rfl,u1,u2,hcp⟩:=prow_at ho3'.row
   unfold maxLen at u2
   have HCP:=Lib.hid hcp
   have HB3:=Lib.hid (bov HM.out.below HM.out.below.size hb3)
   obtain⟨ff,ffc,eF,v1,v2,hcf⟩:=irow_at (HF1.out.over hb3).row
   cases eF
   unfold maxLen at v2
   have HCF:=Lib.hid hcf
   have HG3:=Lib.hid (HG1.out.over HB3.out)
   have HS3:=Lib.hid (HS1.out.over HB3.out)
   have hq1:1*l.length≤281474976710656:=by omega
   have hq2:8*m≤281474976710656:=by omega
   have hn1:l.length≤maxLen:=by unfold maxLen;omega
   have hn2:m≤maxLen:=by unfold maxLen;omega
   clear ho3 ho3' hps hcp hcf hb3 hBm1 hBm2
   have g0:=HG3.out.cell (j:=0) rfl
   have g1:=HG3.out.cell (j:=1) rfl
   have g2:=HG3.out.cell (j:=2) rfl
   have sg:=HG3.out.lt
   go_upto_region 12 with(at_make;refine wpList_make_zeros slzBoolE rfl _ _ rfl w3.heap.size l.length _ rfl rfl rfl hq1 hn1 (Nat.le_refl _) ?_;intro w4 ho4 hg4)
   have HB4:=Lib.hid (grown_over' hg4 (fun g hg=>by cases hg))
   have hA4:=(own_full ho4).1
   clear g0 g1 g2 sg
   go_upto_region 13 with(at_make;refine wpList_make_zeros slzIntE rfl _ _ rfl w4.heap.size m _ rfl rfl rfl hq2 hn2 (Nat.le_refl _) ?_;intro w5 ho5 hg5)
   have HB5:=Lib.hid (grown_over' hg5 (fun g hg=>by cases hg))
   have hA5:=(own_full ho5).1
   rw [← minus_zero] at hA5
   rw [← markV_zero] at hA4
   have hg3l:w3.heap.size≤w4.heap.size:=HB4.out.size
   obtain⟨gB,hgB⟩:∃ gB,gB=w3.heap.size:=⟨_,rfl⟩
   obtain⟨gT,hgT⟩:∃ gT,gT=w4.heap.size:=⟨_,rfl⟩
   rw [← hgB] at hA4
   rw [← hgT] at hA5
   rw [← hgB,← hgT]
   have hBl:w3.heap.size≤gB:=by omega
   have hTl:w3.heap.size≤gT:=by omega
   have HMK:Hid (MkAt w5 w3 gB gT (List.replicate l.length false) (minus 0 m)):=⟨hA4.over HB5.out,hA5,bov HB4.out HB4.out.size HB5.out⟩
   clear hA4 hA5 ho4 ho5 hg4 hg5 hgB hgT HB4 HB5 hg3l
   go_wp2_with fail
   go_loopw [18] (fun v18 wq=>LbRel w3 gB gT l.length m v18 wq) (fun v18 _=>m - (intOf v18).toNat)
   case atStart=>exact⟨0,by omega,rfl,HMK⟩
   case round =>
    obtain⟨j,hj,rfl,HK⟩:=hrel
    rename World=>wq
    have HL2:=Lib.hid (minus_len j m)
    by_cases hlt:j<m
    ·
     have t0:=HK.out.kept.arr.cell (keptV1_get (minus_get (j:=j) hlt))
     have tf:=HK.out.kept.arr.free j
     have st:=HK.out.kept.arr.lt
     have HK2:=Lib.hid (HK.out.keep hTl j (-1))
     rw [minus_set hlt] at HK2
     go_wp2_with fail
     go_roundw
     case rel=>exact⟨j+1,hlt,by go_num,HK2⟩
     case measure=>simp [intOf];omega
    ·
     obtain rfl:m=j:=by omega
     have HK0:Hid (MkAt wq w3 gB gT (marksTo (firmX l R) (ps.take 0) l.length) (keptTo (firmX l R) (ps.take 0) m)):=by
      show MkAt _ _ _ _ _ _
      rw [marks_zero,← kp_zero];exact HK.out
     go_wp2_with fail
     go_loopw [19] (fun v19 wr=>LcRel w3 gB gT l.length m (firmX l R) ps v19 wr) (fun v19 _=>ps.length - (intOf v19).toNat)
     case atStart=>exact⟨0,by omega,rfl,HK0⟩
     case round =>
      obtain⟨k,hk,rfl,HC⟩:=hrel
      rename World=>wr
      by_cases hlt:k<ps.length
      ·
       obtain⟨b7,off7,rfl,sb7,hcb7⟩:=HCP.out.resolve_left (by omega)
       obtain⟨p,hp⟩:=gol hlt
       obtain⟨hp1,hp2⟩:=HPI.out p (List.mem_of_getElem? hp)
       have HP1:=Lib.hid (kept_succ (firm:=firmX l R) (m:=m) hp)
       have HP2:=Lib.hid (marks_succ (firm:=firmX l R) (n:=l.length) hp)
       obtain⟨sx,x0,x1⟩:=hcb7 k p hp _ HC.out.below
       obtain⟨ip,jp⟩:=p
       simp only at hp1 hp2 x0 x1
       obtain⟨fi,hfi⟩:=gol hp1
       have hfn:fi<l.length:=firmX_lt (List.mem_of_getElem? hfi)
       obtain⟨bf,offf,rfl,sbf,hcbf⟩:=HCF.out.resolve_left (by omega)
       obtain⟨sf,f0⟩:=hcbf ip fi hfi _ HC.out.below
       have HFI:=Lib.hid hfi
       have HEq:Hid ((firmX l R).getD (ip,jp).1 0=fi):=by show _=_;rw [getD_of hfi]
       have hml:=marks_len (firmX l R) (ps.take k) l.length
       obtain⟨bb,hbb⟩:=gol (xs:=marksTo (firmX l R) (ps.take k) l.length) (i:=fi) (by rw [hml];exact hfn)
       have b0:=HC.out.marks.arr.cell (markV_get hbb)
       have bf0:=HC.out.marks.arr.free fi
       have sb:=HC.out.marks.arr.lt
       have HCb7:=Lib.hid hcb7
       have HCbf:=Lib.hid hcbf
       have HPp:=Lib.hid hp
       have hkl:=kept_length (firmX l R) (ps.take k) m
       obtain⟨y,hy⟩:=gol (xs:=keptTo (firmX l R) (ps.take k) m) (i:=jp) (by rw [hkl];exact hp2)
       have HYy:=Lib.hid hy
       clear hcb7 hp hfi hcbf hbb hml hkl hy
       go_upto_region 21 with(fail)
       have HC1:=Lib.hid (HC.out.mark hBl fi true)
       generalize hw6:wr.setCell ⟨gB,fi,none⟩ (.bool true)=w6 at *
       clear hw6 b0 bf0 sb x0 x1 sx f0 sf
       obtain⟨sx,x0,x1⟩:=HCb7.out k (ip,jp) HPp.out _ HC1.out.below
       simp only at x0 x1
       obtain⟨sf,f0⟩:=HCbf.out ip fi HFI.out _ HC1.out.below
       have t0:=HC1.out.kept.arr.cell (keptV1_get HYy.out)
       have tf:=HC1.out.kept.arr.free jp
       have st:=HC1.out.kept.arr.lt
       have HC2:=Lib.hid (HC1.out.keep hTl jp (fi:Int))
       have hE1:=HP1.out
       have hE2:=HP2.out
       rw [HEq.out] at hE1 hE2
       rw [← hE1,← hE2] at HC2
       clear hE1 hE2
       go_simp
       have hcur:Below w6.heap.size w6 w6.drew:=(Below.refl _ _).drew
       refine wlex (C:=IsOver w6) 15 [] (by kernel_rfl) (by kernel_rfl) (iov hcur) ?_
       simp only [List.take_succ_cons,List.take_zero,List.drop_succ_cons,List.drop_zero]
       repeat(first|(refine lxs rfl rfl ?_;simp only [Act.put,List.setIfInBounds_toArray,List.set_cons_succ,List.set_cons_zero])|(refine lxo rfl ?_;go_big_quiet_step (fail);refine wpQuiet_nil ?_)|(refine lxl rfl ?_;go_wp2_with (first|(fail));refine⟨iov hcur,?_⟩))
       refine lxe ?_
       clear hcur
       go_wp2_with fail
       go_roundw
       case rel=>exact⟨k+1,hlt,by go_num,HC2.out.over (Below.refl _ _).drew⟩
       case measure=>simp [intOf];omega
      ·
       obtain rfl:k=ps.length:=by omega
       have hC:=HC.out
       rw [List.take_length] at hC
       have HCe:=Lib.hid hC
       have HKn:=Lib.hid (kept_length (firmX l R) ps m)
       have HMLn:=Lib.hid (marks_len (firmX l R) ps l.length)
       clear hC HC
       obtain⟨ks,hks⟩:∃ ks,ks=keptTo (firmX l R) ps m:=⟨_,rfl⟩
       obtain⟨ms,hms⟩:∃ ms,ms=marksTo (firmX l R) ps l.length:=⟨_,rfl⟩
       rw [← hks,← hms] at HCe
       rw [← hks] at HKn HMA HKI
       rw [← hms] at HMA
       have HKS:=Lib.hid hks
       have HKW:Hid (ks.length=want.length):=by show _=_;rw [HKn.out,HMM.out]
       have hkil:=Nat.le_trans (kills_len l ks (aliveX l R)) (aliveX_len l R)
       rw [← hms] at HMLn
       clear hks hms
       go_wp2_with fail
       go_loopw [20,21] (fun v20 v21 wq=>LdRel w3 gB gT l (aliveX l R) ms ks v20 v21 wq) (fun _ v21 _=>(aliveX l R).length - (intOf v21).toNat)
       case atStart=>exact⟨0,[],none,0,by omega,rfl,rfl,Lib.hid (kills_zero l ks (aliveX l R)).symm,⟨HCe.out,gown_nil _ _⟩⟩
       case round =>
        obtain⟨q,ops,p,c,hq,rfl,rfl,HO,HP⟩:=hrel
        rename World=>wr
        have hol:ops.length≤l.length:=by
         rw [HO.out]
         refine Nat.le_trans (kills_len l ks _) ?_
         rw [List.length_take];omega
        have HBr:=Lib.hid (bov HB3.out HB3.out.size HP.out.ma.below)
        by_cases hlt:q<(aliveX l R).length
        ·
         obtain⟨b,off,rfl,sb,hcb⟩:=HCA.out.resolve_left (by omega)
         obtain⟨i,hi⟩:=gol hlt
         obtain⟨sx,x0⟩:=hcb q i hi _ HBr.out
         have hil:=aliveX_lt (List.mem_of_getElem? hi)
         obtain⟨x,hx⟩:=gol hil
         have b0:=HP.out.ma.marks.arr.cell (markV_get (HMA.out i hil))
         have sm:=HP.out.ma.marks.arr.lt
         have HX:=Lib.hid hx
         have HIx:=Lib.hid hi
         have HKV:=Lib.hid (killV5_at hx)
         clear hcb hi hx
         cases hcn:ks.contains (Int.ofNat i) with
         | true =>
          have HN:=Lib.hid (kills_no (l:=l) HIx.out hcn)
          rw [hcn] at b0
          clear hcn
          go_wp2_with fail
          go_roundw
          case rel=>exact⟨q+1,ops,p,c,hlt,by go_num,rfl,Lib.hid (by rw [HN.out];exact HO.out),HP⟩
          case measure=>simp [intOf];omega
         | false =>
          have HN:=Lib.hid (kills_yes (l:=l) HIx.out hcn)
          rw [HKV.out] at HN
          rw [hcn] at b0
          have HGr:=Lib.hid (HG1.out.over HBr.out)
          have g0:=HGr.out.cell (j:=0) rfl
          have g1:=HGr.out.cell (j:=1) rfl
          have g2:=HGr.out.cell (j:=2) rfl
          have sg:=HGr.out.lt
          obtain⟨a7,c7,e7,q1,q2,hc7⟩:=(HS1.out.over HBr.out).row.at encVert_len
          cases e7
          obtain⟨b7,off7,rfl,sb7,hcb7⟩:=hc7.resolve_left (by omega)
          have s7:=(hcb7 i x HX.out _ (Below.refl _ _)).1
          have e0:wr.cell? ⟨b7,off7+i*9,none⟩=some (.int .u8 x.id.pid.author.toNat):=(hcb7 i x HX.out _ (Below.refl _ _)).2 0 _ rfl
          have e1:wr.cell? ⟨b7,off7+i*9+1,none⟩=some (.int .u16 x.id.pid.seq.toNat):=(hcb7 i x HX.out _ (Below.refl _ _)).2 1 _ rfl
          have e2:wr.cell? ⟨b7,off7+i*9+2,none⟩=some (.int .u8 x.id.n.toNat):=(hcb7 i x HX.out _ (Below.refl _ _)).2 2 _ rfl
          have hN3:ops.length+1≤1099511627776:=by omega
          have hB3:=HP.out.ma.below.size
          have HOw:=Lib.hid HP.out.own
          obtain⟨ops9,hops9⟩:∃ z,z=ops++[(⟨5,x.id,noVid,⟨#[]⟩⟩:OpM)]:=⟨_,rfl⟩
          have HO9e:=Lib.hid hops9
          have HN9:Hid (ops9=killsE l ((aliveX l R).take (q+1)) ks):=by show _=_;rw [HN.out,← HO.out];exact hops9
          clear hcn hops9 hc7 hcb7
          go_wp2_with fail
          have hcur:Below wr.heap.size wr wr.drew:=(Below.refl _ _).drew
          refine wlex (C:=IsOver wr) 12 [] (by kernel_rfl) (by kernel_rfl) (iov hcur) ?_
          simp only [List.take_succ_cons,List.take_zero,List.drop_succ_cons,List.drop_zero]
          repeat(first|(refine lxs rfl rfl ?_;simp only [Act.put,List.setIfInBounds_toArray,List.set_cons_succ,List.set_cons_zero])|(refine lxo rfl ?_;go_big_quiet_step (fail);refine wpQuiet_nil ?_)|(refine lxl rfl ?_;go_wp2_with (first|(fail));refine⟨iov (by first|exact hcur|exact hcur.alloc hcur.size _),?_⟩))
          refine lxe ?_
          clear hcur
          go_wp2_with ((at_builtin;(first|refine apD slOp rfl _ _ rfl w3.heap.size _ _ (dad _ _ _) 1 _ _ _ HOw.out rfl rfl rfl rfl hN3 (by decide) hB3 ?_|refine apD slOp rfl _ _ rfl w3.heap.size _ _ (ddw _) 1 _ _ _ HOw.out rfl rfl rfl rfl hN3 (by decide) hB3 ?_|refine apD slOp rfl _ _ rfl w3.heap.size _ _ (ddn _ _) 1 _ _ _ HOw.out rfl rfl rfl rfl hN3 (by decide) hB3 ?_|refine apD slOp rfl _ _ rfl w3.heap.size _ _ (drf _) 1 _ _ _ HOw.out rfl rfl rfl rfl hN3 (by decide) hB3 ?_);intro v9 w9 ho9 hg9);(obtain⟨p9,c9,e9,hO9⟩:=oown_more (GOwn.snoc (x:=(⟨5,x.id,noVid,⟨#[]⟩⟩:OpM)) ho9) HO9e.out);subst e9;have HO9:=Lib.hid hO9;have HG9:=Lib.hid hg9;clear ho9 hg9 hO9)
          go_roundw
          case rel=>exact⟨q+1,ops9,p9,c9,hlt,by go_num,rfl,HN9,HP.out.op HO9.out HG9.out⟩
          case measure=>simp [intOf];omega
        ·
         obtain rfl:q=(aliveX l R).length:=by omega
         have hO:=HO.out
         rw [List.take_length] at hO
         have HKLL:=Lib.hid hO
         clear HO hO
         obtain⟨kl,hkl⟩:∃ kl,kl=killsE l (aliveX l R) ks:=⟨_,rfl⟩
         have HKL2:=Lib.hid hkl
         have HOK:Hid (ops=kl):=by show _=_;rw [hkl];exact HKLL.out
         have hkil2:kl.length≤l.length:=by rw [hkl];exact hkil
         have HNm0:Hid (MkNm wr w3 gB gT ms ks p c ops none 0 []):=⟨HP.out,gown_nil _ _⟩
         clear hkl
         go_wp2_with fail
         go_loopw [20,22,23] (fun v20 v22 v23 wq=>LeRel w3 gB gT l file id from' ms ks want kl m v20 v22 v23 wq) (fun _ _ v23 _=>m - (intOf v23).toNat)
         case atStart=>exact⟨0,ops,[],p,c,none,0,by omega,rfl,rfl,rfl,Lib.hid (by rw [HOK.out];exact adds_zero.symm),HNm0⟩
         case round =>
          obtain⟨j,ops,at',p,c,p',c',hj,rfl,rfl,rfl,HAD,HP⟩:=hrel
          rename World=>wr
          obtain⟨hal2,hol2⟩:=adds_both HKW.out (by rw [← HMM.out];exact hj) HAD.out
          have HBr:=Lib.hid (bov HB3.out HB3.out.size HP.out.mo.ma.below)
          have HB0:=Lib.hid (bov HB1.out HB1.out.size HBr.out)
          have hatl:at'.length≤m:=by omega
          by_cases hlt:j<m
          ·
           obtain⟨x,hx⟩:=gol (xs:=ks) (i:=j) (by rw [HKn.out];exact hlt)
           obtain⟨t,ht⟩:=gol (xs:=want) (i:=j) (by rw [← HMM.out];exact hlt)
           have k0:=HP.out.mo.ma.kept.arr.cell (keptV1_get hx)
           have sk:=HP.out.mo.ma.kept.arr.lt
           have HX:=Lib.hid hx
           have HTx:=Lib.hid ht
           have hN1:at'.length+1≤1099511627776:=by omega
           have hN2:ops.length+1≤1099511627776:=by omega
           clear ht hal2
           rcases HKI.out j x hx with hx1|⟨i,hx1,hil⟩
           ·
            subst hx1
            have HI4:=Lib.hid (HI.out.over HB0.out)
            have i0:=HI4.out.cell (j:=0) rfl
            have i1:=HI4.out.cell (j:=1) rfl
            have si:=HI4.out.lt
            obtain⟨N,hN⟩:∃ N,from'+ops.length=N:=⟨_,rfl⟩
            have eN:((from':Int)+(ops.length:Int))=(N:Int):=by omega
            have hNl:N<4611686018427387904:=by omega
            have HN:=Lib.hid hN
            clear hx hN
            go_wp2_with fail
            refine(rvid_any id N _ hNl).mono ?_
            rintro e w4 ⟨rfl,hb4⟩
            have HP4:=Lib.hid (HP.out.over hb4)
            have HNo:=Lib.hid HP4.out.names
            have hB4:=HP4.out.mo.ma.below.size
            obtain⟨at9,hat9⟩:∃ z,z=at'++[(⟨id,UInt8.ofNat N⟩:VidM)]:=⟨_,rfl⟩
            have HA9e:=Lib.hid hat9
            clear hb4 k0 sk i0 i1 si eN hat9
            go_upto_region 35 with((at_builtin;(first|refine apD slVidE rfl _ _ rfl w3.heap.size _ _ (dad _ _ _) 1 _ _ _ HNo.out rfl rfl rfl rfl hN1 (by decide) hB4 ?_|refine apD slVidE rfl _ _ rfl w3.heap.size _ _ (ddw _) 1 _ _ _ HNo.out rfl rfl rfl rfl hN1 (by decide) hB4 ?_|refine apD slVidE rfl _ _ rfl w3.heap.size _ _ (ddn _ _) 1 _ _ _ HNo.out rfl rfl rfl rfl hN1 (by decide) hB4 ?_|refine apD slVidE rfl _ _ rfl w3.heap.size _ _ (drf _) 1 _ _ _ HNo.out rfl rfl rfl rfl hN1 (by decide) hB4 ?_);intro v9 w9 ho9 hg9);(obtain⟨p9,c9,e9,hO9⟩:=vown_more (GOwn.snoc (x:=(⟨id,UInt8.ofNat N⟩:VidM)) ho9) HA9e.out);subst e9;have HO9:=Lib.hid hO9;have HG9:=Lib.hid hg9;clear ho9 hg9 hO9)
            have HP5:=Lib.hid (HP4.out.name HO9.out HG9.out)
            clear HO9 HG9
            have HB5r:=Lib.hid (bov HB3.out HB3.out.size HP5.out.mo.ma.below)
            have HB50:=Lib.hid (bov HB1.out HB1.out.size HB5r.out)
            have HF5:=Lib.hid (HF.out.over HB50.out)
            have f0:=HF5.out.cell (j:=0) rfl
            have f1:=HF5.out.cell (j:=1) rfl
            have f2:=HF5.out.cell (j:=2) rfl
            have sf:=HF5.out.lt
            obtain⟨wa2,wc2,e2,_,_,_,hcw⟩:=SRow.form (HW.out.over HB50.out)
            cases e2
            obtain⟨bw,offw,rfl,sbw,hcw2⟩:=hcw.resolve_left (by rw [← HMM.out];omega)
            have w0c:=hcw2 j t HTx.out
            have hB5:=HP5.out.mo.ma.below.size
            have HOw:=Lib.hid HP5.out.mo.own
            obtain⟨ops9,hops9⟩:∃ y,y=ops++[(⟨3,file,noVid,t⟩:OpM)]:=⟨_,rfl⟩
            have HO9e:=Lib.hid hops9
            have HAD2:=Lib.hid (adds_next2 HX.out HTx.out HAD.out)
            rw [HN.out,← hops9,← HA9e.out] at HAD2
            clear hcw hcw2 hops9
            go_simp
            have hcur:Below w9.heap.size w9 w9.drew:=(Below.refl _ _).drew
            refine wlex (C:=IsOver w9) 8 [] (by kernel_rfl) (by kernel_rfl) (iov hcur) ?_
            simp only [List.take_succ_cons,List.take_zero,List.drop_succ_cons,List.drop_zero]
            repeat(first|(refine lxs rfl rfl ?_;simp only [Act.put,List.setIfInBounds_toArray,List.set_cons_succ,List.set_cons_zero])|(refine lxo rfl ?_;go_big_quiet_step (fail);refine wpQuiet_nil ?_)|(refine lxl rfl ?_;go_wp2_with (first|(fail));refine⟨iov (by first|exact hcur|exact hcur.alloc hcur.size _),?_⟩))
            refine lxe ?_
            clear hcur
            go_wp2_with ((at_builtin;(first|refine apD slOp rfl _ _ rfl w3.heap.size _ _ (dad _ _ _) 1 _ _ _ HOw.out rfl rfl rfl rfl hN2 (by decide) hB5 ?_|refine apD slOp rfl _ _ rfl w3.heap.size _ _ (ddw _) 1 _ _ _ HOw.out rfl rfl rfl rfl hN2 (by decide) hB5 ?_|refine apD slOp rfl _ _ rfl w3.heap.size _ _ (ddn _ _) 1 _ _ _ HOw.out rfl rfl rfl rfl hN2 (by decide) hB5 ?_|refine apD slOp rfl _ _ rfl w3.heap.size _ _ (drf _) 1 _ _ _ HOw.out rfl rfl rfl rfl hN2 (by decide) hB5 ?_);intro v10 w10 ho10 hg10);(obtain⟨p10,c10,e10,hO10⟩:=oown_more (GOwn.snoc (x:=(⟨3,file,noVid,t⟩:OpM)) ho10) HO9e.out);subst e10;have HO10:=Lib.hid hO10;have HG10:=Lib.hid hg10;clear ho10 hg10 hO10)
            go_roundw
            case rel=>exact⟨j+1,ops9,at9,p10,c10,p9,c9,hlt,by go_num,rfl,rfl,HAD2,HP5.out.op HO10.out HG10.out⟩
            case measure=>simp [intOf];omega
           ·
            subst hx1
            obtain⟨x,hxv⟩:=gol hil
            have HX2:=Lib.hid hxv
            have HAD2:=Lib.hid (adds_next1 HX.out HTx.out hxv HAD.out)
            have HGr:=Lib.hid (HG1.out.over HBr.out)
            have g0:=HGr.out.cell (j:=0) rfl
            have g1:=HGr.out.cell (j:=1) rfl
            have g2:=HGr.out.cell (j:=2) rfl
            have sg:=HGr.out.lt
            obtain⟨a7,c7,e7,q1,q2,hc7⟩:=(HS1.out.over HBr.out).row.at encVert_len
            cases e7
            obtain⟨b7,off7,rfl,sb7,hcb7⟩:=hc7.resolve_left (by omega)
            have s7:=(hcb7 i x HX2.out _ (Below.refl _ _)).1
            have e0:wr.cell? ⟨b7,off7+i*9,none⟩=some (.int .u8 x.id.pid.author.toNat):=(hcb7 i x HX2.out _ (Below.refl _ _)).2 0 _ rfl
            have e1:wr.cell? ⟨b7,off7+i*9+1,none⟩=some (.int .u16 x.id.pid.seq.toNat):=(hcb7 i x HX2.out _ (Below.refl _ _)).2 1 _ rfl
            have e2:wr.cell? ⟨b7,off7+i*9+2,none⟩=some (.int .u8 x.id.n.toNat):=(hcb7 i x HX2.out _ (Below.refl _ _)).2 2 _ rfl
            have hB4:=HP.out.mo.ma.below.size
            have HNo:=Lib.hid HP.out.names
            obtain⟨at9,hat9⟩:∃ z,z=at'++[x.id]:=⟨_,rfl⟩
            have HA9e:=Lib.hid hat9
            rw [← hat9] at HAD2
            clear hx hxv hat9 hc7 hcb7
            go_wp2_with fail
            have hcur:Below wr.heap.size wr wr.drew:=(Below.refl _ _).drew
            refine wlex (C:=IsOver wr) 11 [] (by kernel_rfl) (by kernel_rfl) (iov hcur) ?_
            simp only [List.take_succ_cons,List.take_zero,List.drop_succ_cons,List.drop_zero]
            repeat(first|(refine lxs rfl rfl ?_;simp only [Act.put,List.setIfInBounds_toArray,List.set_cons_succ,List.set_cons_zero])|(refine lxo rfl ?_;go_big_quiet_step (fail);refine wpQuiet_nil ?_)|(refine lxl rfl ?_;go_wp2_with (first|(fail));refine⟨iov (by first|exact hcur|exact hcur.alloc hcur.size _),?_⟩))
            refine lxe ?_
            clear hcur
            go_wp2_with ((at_builtin;(first|refine apD slVidE rfl _ _ rfl w3.heap.size _ _ (dad _ _ _) 1 _ _ _ HNo.out rfl rfl rfl rfl hN1 (by decide) hB4 ?_|refine apD slVidE rfl _ _ rfl w3.heap.size _ _ (ddw _) 1 _ _ _ HNo.out rfl rfl rfl rfl hN1 (by decide) hB4 ?_|refine apD slVidE rfl _ _ rfl w3.heap.size _ _ (ddn _ _) 1 _ _ _ HNo.out rfl rfl rfl rfl hN1 (by decide) hB4 ?_|refine apD slVidE rfl _ _ rfl w3.heap.size _ _ (drf _) 1 _ _ _ HNo.out rfl rfl rfl rfl hN1 (by decide) hB4 ?_);intro v9 w9 ho9 hg9);(obtain⟨p9,c9,e9,hO9⟩:=vown_more (GOwn.snoc (x:=x.id) ho9) HA9e.out);subst e9;have HO9:=Lib.hid hO9;have HG9:=Lib.hid hg9;clear ho9 hg9 hO9)
            go_roundw
            case rel=>exact⟨j+1,ops,at9,p,c,p9,c9,hlt,by go_num,rfl,rfl,HAD2,HP.out.name HO9.out HG9.out⟩
            case measure=>simp [intOf];omega
          ·
           obtain rfl:m=j:=by omega
           have HAL2:=Lib.hid hal2
           clear hal2
           have HTL:=Lib.hid (ties_len R ks at')
           go_wp2_with fail
           go_loopw [20,24] (fun v20 v24 wq=>LfRel w3 gB gT R ms ks at' ops m p' c' v20 v24 wq) (fun _ v24 _=>m - (intOf v24).toNat)
           case atStart=>exact⟨0,ops,p,c,.inr rfl,by go_num,rfl,Lib.hid (by rw [ties_one,List.append_nil]),HP⟩
           case round =>
            obtain⟨q,ops2,p2,c2,hq,rfl,rfl,HO2,HP2⟩:=hrel
            rename World=>wr
            have hol3:ops2.length≤ops.length+(q+1):=by
             rw [HO2.out,List.length_append];have:=HTL.out (q+1);omega
            have HBr:=Lib.hid (bov HB3.out HB3.out.size HP2.out.mo.ma.below)
            by_cases hlt:q+1<m
            ·
             obtain⟨x,hx⟩:=gol (xs:=ks) (i:=q) (by rw [HKn.out];omega)
             obtain⟨y,hy⟩:=gol (xs:=ks) (i:=q+1) (by rw [HKn.out];exact hlt)
             obtain⟨u,hu⟩:=gol (xs:=at') (i:=q) (by rw [HAL2.out];omega)
             obtain⟨v,hv⟩:=gol (xs:=at') (i:=q+1) (by rw [HAL2.out];exact hlt)
             have k0:=HP2.out.mo.ma.kept.arr.cell (keptV1_get hx)
             have k1:=HP2.out.mo.ma.kept.arr.cell (keptV1_get hy)
             have sk:=HP2.out.mo.ma.kept.arr.lt
             have HX:=Lib.hid hx
             have HYY:=Lib.hid hy
             have HU:=Lib.hid hu
             have HVV:=Lib.hid hv
             have HGr:=Lib.hid (HG1.out.over HBr.out)
             have g0:=HGr.out.cell (j:=0) rfl
             have g1:=HGr.out.cell (j:=1) rfl
             have g2:=HGr.out.cell (j:=2) rfl
             have sg:=HGr.out.lt
             have HSr:=Lib.hid (HS1.out.over HBr.out)
             have hN5:ops2.length+1≤1099511627776:=by omega
             have d1:decide ((q:Int)+1<(m:Int))=true:=decide_eq_true (by omega)
             clear hu hv
             rcases HKI.out q x hx with hx1|⟨i,hx1,hil⟩
             ·
              subst hx1
              have HN:=Lib.hid (ties_yes (R:=R) HX.out HYY.out HU.out HVV.out (.inl (by decide)))
              clear hx hy
              go_wp2_with fail
              have hcur:Below wr.heap.size wr wr.drew:=(Below.refl _ _).drew
              refine wlex (C:=IsOver wr) 28 [] (by kernel_rfl) (by kernel_rfl) (iov hcur) ?_
              simp only [List.take_succ_cons,List.take_zero,List.drop_succ_cons,List.drop_zero]
              repeat(first|(refine lxs rfl rfl ?_;simp only [Act.put,List.setIfInBounds_toArray,List.set_cons_succ,List.set_cons_zero])|(refine lxo rfl ?_;go_big_quiet_step (fail);refine wpQuiet_nil ?_)|(refine lxl rfl ?_;go_wp2_with (first|(fail));refine⟨iov hcur,?_⟩))
              refine lxe ?_
              have HP3:=Lib.hid (HP2.out.over hcur)
              clear hcur k0 k1 sk g0 g1 g2 sg d1
              generalize hwd:wr.drew=wd at *
              clear hwd
              have HNm:=Lib.hid HP3.out.names
              obtain⟨an,cn,en,_,_,hcn⟩:=HNm.out.row.at encVid_len
              cases en
              obtain⟨bn,offn,rfl,sbn,hcbn⟩:=hcn.resolve_left (by rw [HAL2.out];omega)
              have n0:wd.cell? ⟨bn,offn+q*3,none⟩=some (.int .u8 u.pid.author.toNat):=(hcbn q u HU.out _ (Below.refl _ _)).2 0 _ rfl
              have n1:wd.cell? ⟨bn,offn+q*3+1,none⟩=some (.int .u16 u.pid.seq.toNat):=(hcbn q u HU.out _ (Below.refl _ _)).2 1 _ rfl
              have n2:wd.cell? ⟨bn,offn+q*3+2,none⟩=some (.int .u8 u.n.toNat):=(hcbn q u HU.out _ (Below.refl _ _)).2 2 _ rfl
              have n3:wd.cell? ⟨bn,offn+(q+1)*3,none⟩=some (.int .u8 v.pid.author.toNat):=(hcbn (q+1) v HVV.out _ (Below.refl _ _)).2 0 _ rfl
              have n4:wd.cell? ⟨bn,offn+(q+1)*3+1,none⟩=some (.int .u16 v.pid.seq.toNat):=(hcbn (q+1) v HVV.out _ (Below.refl _ _)).2 1 _ rfl
              have n5:wd.cell? ⟨bn,offn+(q+1)*3+2,none⟩=some (.int .u8 v.n.toNat):=(hcbn (q+1) v HVV.out _ (Below.refl _ _)).2 2 _ rfl
              have sn:=(hcbn q u HU.out _ (Below.refl _ _)).1
              have hqa:q+1<at'.length:=by rw [HAL2.out];exact hlt
              have hB5:=HP3.out.mo.ma.below.size
              have HOw:=Lib.hid HP3.out.mo.own
              obtain⟨ops9,hops9⟩:∃ z,z=ops2++[(⟨4,u,v,⟨#[]⟩⟩:OpM)]:=⟨_,rfl⟩
              have HO9e:=Lib.hid hops9
              have HN9:Hid (ops9=ops++tiesTo R ks at' (q+1+1)):=by show _=_;rw [HN.out,← List.append_assoc,← HO2.out];exact hops9
              clear hops9 hcn hcbn
              go_wp2_with fail
              have hcur:Below wd.heap.size wd wd.drew:=(Below.refl _ _).drew
              refine wlex (C:=IsOver wd) 12 [] (by kernel_rfl) (by kernel_rfl) (iov hcur) ?_
              simp only [List.take_succ_cons,List.take_zero,List.drop_succ_cons,List.drop_zero]
              repeat(first|(refine lxs rfl rfl ?_;simp only [Act.put,List.setIfInBounds_toArray,List.set_cons_succ,List.set_cons_zero])|(refine lxo rfl ?_;go_big_quiet_step (fail);refine wpQuiet_nil ?_)|(refine lxl rfl ?_;go_wp2_with (first|(fail));refine⟨iov (by first|exact hcur|exact hcur.alloc hcur.size _),?_⟩))
              refine lxe ?_
              clear hcur
              go_wp2_with ((at_builtin;(first|refine apD slOp rfl _ _ rfl w3.heap.size _ _ (dad _ _ _) 1 _ _ _ HOw.out rfl rfl rfl rfl hN5 (by decide) hB5 ?_|refine apD slOp rfl _ _ rfl w3.heap.size _ _ (ddw _) 1 _ _ _ HOw.out rfl rfl rfl rfl hN5 (by decide) hB5 ?_|refine apD slOp rfl _ _ rfl w3.heap.size _ _ (ddn _ _) 1 _ _ _ HOw.out rfl rfl rfl rfl hN5 (by decide) hB5 ?_|refine apD slOp rfl _ _ rfl w3.heap.size _ _ (drf _) 1 _ _ _ HOw.out rfl rfl rfl rfl hN5 (by decide) hB5 ?_);intro v9 w9 ho9 hg9);(obtain⟨p9,c9,e9,hO9⟩:=oown_more (GOwn.snoc (x:=(⟨4,u,v,⟨#[]⟩⟩:OpM)) ho9) HO9e.out);subst e9;have HO9:=Lib.hid hO9;have HG9:=Lib.hid hg9;clear ho9 hg9 hO9)
              go_roundw
              case rel=>exact⟨q+1,ops9,p9,c9,.inl hlt,by go_num,rfl,HN9,HP3.out.op HO9.out HG9.out⟩
              case measure=>simp [intOf];omega
             ·
              subst hx1
              have ei:decide ((i:Int)<0)=false:=decide_eq_false (by omega)
              rcases HKI.out (q+1) y hy with hy1|⟨i2,hy1,hil2⟩
              ·
               subst hy1
               have HN:=Lib.hid (ties_yes (R:=R) HX.out HYY.out HU.out HVV.out (.inr (.inl (by decide))))
               clear hx hy
               go_wp2_with fail
               have hcur:Below wr.heap.size wr wr.drew:=(Below.refl _ _).drew
               refine wlex (C:=IsOver wr) 28 [] (by kernel_rfl) (by kernel_rfl) (iov hcur) ?_
               simp only [List.take_succ_cons,List.take_zero,List.drop_succ_cons,List.drop_zero]
               repeat(first|(refine lxs rfl rfl ?_;simp only [Act.put,List.setIfInBounds_toArray,List.set_cons_succ,List.set_cons_zero])|(refine lxo rfl ?_;go_big_quiet_step (fail);refine wpQuiet_nil ?_)|(refine lxl rfl ?_;go_wp2_with (first|(fail));refine⟨iov hcur,?_⟩))
               refine lxe ?_
               have HP3:=Lib.hid (HP2.out.over hcur)
               clear hcur k0 k1 sk g0 g1 g2 sg d1
               generalize hwd:wr.drew=wd at *
               clear hwd
               have HNm:=Lib.hid HP3.out.names
               obtain⟨an,cn,en,_,_,hcn⟩:=HNm.out.row.at encVid_len
               cases en
               obtain⟨bn,offn,rfl,sbn,hcbn⟩:=hcn.resolve_left (by rw [HAL2.out];omega)
               have n0:wd.cell? ⟨bn,offn+q*3,none⟩=some (.int .u8 u.pid.author.toNat):=(hcbn q u HU.out _ (Below.refl _ _)).2 0 _ rfl
               have n1:wd.cell? ⟨bn,offn+q*3+1,none⟩=some (.int .u16 u.pid.seq.toNat):=(hcbn q u HU.out _ (Below.refl _ _)).2 1 _ rfl
               have n2:wd.cell? ⟨bn,offn+q*3+2,none⟩=some (.int .u8 u.n.toNat):=(hcbn q u HU.out _ (Below.refl _ _)).2 2 _ rfl
               have n3:wd.cell? ⟨bn,offn+(q+1)*3,none⟩=some (.int .u8 v.pid.author.toNat):=(hcbn (q+1) v HVV.out _ (Below.refl _ _)).2 0 _ rfl
               have n4:wd.cell? ⟨bn,offn+(q+1)*3+1,none⟩=some (.int .u16 v.pid.seq.toNat):=(hcbn (q+1) v HVV.out _ (Below.refl _ _)).2 1 _ rfl
               have n5:wd.cell? ⟨bn,offn+(q+1)*3+2,none⟩=some (.int .u8 v.n.toNat):=(hcbn (q+1) v HVV.out _ (Below.refl _ _)).2 2 _ rfl
               have sn:=(hcbn q u HU.out _ (Below.refl _ _)).1
               have hqa:q+1<at'.length:=by rw [HAL2.out];exact hlt
               have hB5:=HP3.out.mo.ma.below.size
               have HOw:=Lib.hid HP3.out.mo.own
               obtain⟨ops9,hops9⟩:∃ z,z=ops2++[(⟨4,u,v,⟨#[]⟩⟩:OpM)]:=⟨_,rfl⟩
               have HO9e:=Lib.hid hops9
               have HN9:Hid (ops9=ops++tiesTo R ks at' (q+1+1)):=by show _=_;rw [HN.out,← List.append_assoc,← HO2.out];exact hops9
               clear hops9 hcn hcbn
               go_wp2_with fail
               have hcur:Below wd.heap.size wd wd.drew:=(Below.refl _ _).drew
               refine wlex (C:=IsOver wd) 12 [] (by kernel_rfl) (by kernel_rfl) (iov hcur) ?_
               simp only [List.take_succ_cons,List.take_zero,List.drop_succ_cons,List.drop_zero]
               repeat(first|(refine lxs rfl rfl ?_;simp only [Act.put,List.setIfInBounds_toArray,List.set_cons_succ,List.set_cons_zero])|(refine lxo rfl ?_;go_big_quiet_step (fail);refine wpQuiet_nil ?_)|(refine lxl rfl ?_;go_wp2_with (first|(fail));refine⟨iov (by first|exact hcur|exact hcur.alloc hcur.size _),?_⟩))
               refine lxe ?_
               clear hcur
               go_wp2_with ((at_builtin;(first|refine apD slOp rfl _ _ rfl w3.heap.size _ _ (dad _ _ _) 1 _ _ _ HOw.out rfl rfl rfl rfl hN5 (by decide) hB5 ?_|refine apD slOp rfl _ _ rfl w3.heap.size _ _ (ddw _) 1 _ _ _ HOw.out rfl rfl rfl rfl hN5 (by decide) hB5 ?_|refine apD slOp rfl _ _ rfl w3.heap.size _ _ (ddn _ _) 1 _ _ _ HOw.out rfl rfl rfl rfl hN5 (by decide) hB5 ?_|refine apD slOp rfl _ _ rfl w3.heap.size _ _ (drf _) 1 _ _ _ HOw.out rfl rfl rfl rfl hN5 (by decide) hB5 ?_);intro v9 w9 ho9 hg9);(obtain⟨p9,c9,e9,hO9⟩:=oown_more (GOwn.snoc (x:=(⟨4,u,v,⟨#[]⟩⟩:OpM)) ho9) HO9e.out);subst e9;have HO9:=Lib.hid hO9;have HG9:=Lib.hid hg9;clear ho9 hg9 hO9)
               go_roundw
               case rel=>exact⟨q+1,ops9,p9,c9,.inl hlt,by go_num,rfl,HN9,HP3.out.op HO9.out HG9.out⟩
               case measure=>simp [intOf];omega
              ·
               subst hy1
               have ei2:decide ((i2:Int)<0)=false:=decide_eq_false (by omega)
               clear hx hy
               cases hb:befB R i i2 with
               | true =>
                have HBV:=Lib.hid hb
                have HN:=Lib.hid (ties_no (R:=R) (at':=at') HX.out HYY.out (Int.natCast_nonneg i) (Int.natCast_nonneg i2) hb)
                clear hb
                go_wp2_with fail
                have hcur:Below wr.heap.size wr wr.drew:=(Below.refl _ _).drew
                refine wlex (C:=IsOver wr) 28 [] (by kernel_rfl) (by kernel_rfl) (iov hcur) ?_
                simp only [List.take_succ_cons,List.take_zero,List.drop_succ_cons,List.drop_zero]
                repeat(first|(refine lxs rfl rfl ?_;simp only [Act.put,List.setIfInBounds_toArray,List.set_cons_succ,List.set_cons_zero])|(refine lxo rfl ?_;go_big_quiet_step (fail);refine wpQuiet_nil ?_)|(refine lxl rfl ?_;go_wp2_with (first|(go_at_call 57;(with_reducible refine(r8bef_any l.length _ R i i2 _ ((HSr.out.over hcur).rel)).mono ?_);rintro e w' ⟨rfl,hb⟩;rw [HBV.out];replace hcur:=bov hcur hcur.size hb;clear hb));refine⟨iov hcur,?_⟩))
                refine lxe ?_
                have HP3:=Lib.hid (HP2.out.over hcur)
                clear hcur k0 k1 sk g0 g1 g2 sg d1
                go_wp2_with fail
                go_roundw
                case rel=>exact⟨q+1,ops2,p2,c2,.inl hlt,by go_num,rfl,Lib.hid (by rw [HN.out];exact HO2.out),HP3⟩
                case measure=>simp [intOf];omega
               | false =>
                have HBV:=Lib.hid hb
                have HN:=Lib.hid (ties_yes (R:=R) HX.out HYY.out HU.out HVV.out (.inr (.inr hb)))
                clear hb
                go_wp2_with fail
                have hcur:Below wr.heap.size wr wr.drew:=(Below.refl _ _).drew
                refine wlex (C:=IsOver wr) 28 [] (by kernel_rfl) (by kernel_rfl) (iov hcur) ?_
                simp only [List.take_succ_cons,List.take_zero,List.drop_succ_cons,List.drop_zero]
                repeat(first|(refine lxs rfl rfl ?_;simp only [Act.put,List.setIfInBounds_toArray,List.set_cons_succ,List.set_cons_zero])|(refine lxo rfl ?_;go_big_quiet_step (fail);refine wpQuiet_nil ?_)|(refine lxl rfl ?_;go_wp2_with (first|(go_at_call 57;(with_reducible refine(r8bef_any l.length _ R i i2 _ ((HSr.out.over hcur).rel)).mono ?_);rintro e w' ⟨rfl,hb⟩;rw [HBV.out];replace hcur:=bov hcur hcur.size hb;clear hb));refine⟨iov hcur,?_⟩))
                refine lxe ?_
                have HP3:=Lib.hid (HP2.out.over hcur)
                clear hcur k0 k1 sk g0 g1 g2 sg d1
                rename World=>wd
                have HNm:=Lib.hid HP3.out.names
                obtain⟨an,cn,en,_,_,hcn⟩:=HNm.out.row.at encVid_len
                cases en
                obtain⟨bn,offn,rfl,sbn,hcbn⟩:=hcn.resolve_left (by rw [HAL2.out];omega)
                have n0:wd.cell? ⟨bn,offn+q*3,none⟩=some (.int .u8 u.pid.author.toNat):=(hcbn q u HU.out _ (Below.refl _ _)).2 0 _ rfl
                have n1:wd.cell? ⟨bn,offn+q*3+1,none⟩=some (.int .u16 u.pid.seq.toNat):=(hcbn q u HU.out _ (Below.refl _ _)).2 1 _ rfl
                have n2:wd.cell? ⟨bn,offn+q*3+2,none⟩=some (.int .u8 u.n.toNat):=(hcbn q u HU.out _ (Below.refl _ _)).2 2 _ rfl
                have n3:wd.cell? ⟨bn,offn+(q+1)*3,none⟩=some (.int .u8 v.pid.author.toNat):=(hcbn (q+1) v HVV.out _ (Below.refl _ _)).2 0 _ rfl
                have n4:wd.cell? ⟨bn,offn+(q+1)*3+1,none⟩=some (.int .u16 v.pid.seq.toNat):=(hcbn (q+1) v HVV.out _ (Below.refl _ _)).2 1 _ rfl
                have n5:wd.cell? ⟨bn,offn+(q+1)*3+2,none⟩=some (.int .u8 v.n.toNat):=(hcbn (q+1) v HVV.out _ (Below.refl _ _)).2 2 _ rfl
                have sn:=(hcbn q u HU.out _ (Below.refl _ _)).1
                have hqa:q+1<at'.length:=by rw [HAL2.out];exact hlt
                have hB5:=HP3.out.mo.ma.below.size
                have HOw:=Lib.hid HP3.out.mo.own
                obtain⟨ops9,hops9⟩:∃ z,z=ops2++[(⟨4,u,v,⟨#[]⟩⟩:OpM)]:=⟨_,rfl⟩
                have HO9e:=Lib.hid hops9
                have HN9:Hid (ops9=ops++tiesTo R ks at' (q+1+1)):=by show _=_;rw [HN.out,← List.append_assoc,← HO2.out];exact hops9
                clear hops9 hcn hcbn
                go_wp2_with fail
                have hcur:Below wd.heap.size wd wd.drew:=(Below.refl _ _).drew
                refine wlex (C:=IsOver wd) 12 [] (by kernel_rfl) (by kernel_rfl) (iov hcur) ?_
                simp only [List.take_succ_cons,List.take_zero,List.drop_succ_cons,List.drop_zero]
                repeat(first|(refine lxs rfl rfl ?_;simp only [Act.put,List.setIfInBounds_toArray,List.set_cons_succ,List.set_cons_zero])|(refine lxo rfl ?_;go_big_quiet_step (fail);refine wpQuiet_nil ?_)|(refine lxl rfl ?_;go_wp2_with (first|(fail));refine⟨iov (by first|exact hcur|exact hcur.alloc hcur.size _),?_⟩))
                refine lxe ?_
                clear hcur
                go_wp2_with ((at_builtin;(first|refine apD slOp rfl _ _ rfl w3.heap.size _ _ (dad _ _ _) 1 _ _ _ HOw.out rfl rfl rfl rfl hN5 (by decide) hB5 ?_|refine apD slOp rfl _ _ rfl w3.heap.size _ _ (ddw _) 1 _ _ _ HOw.out rfl rfl rfl rfl hN5 (by decide) hB5 ?_|refine apD slOp rfl _ _ rfl w3.heap.size _ _ (ddn _ _) 1 _ _ _ HOw.out rfl rfl rfl rfl hN5 (by decide) hB5 ?_|refine apD slOp rfl _ _ rfl w3.heap.size _ _ (drf _) 1 _ _ _ HOw.out rfl rfl rfl rfl hN5 (by decide) hB5 ?_);intro v9 w9 ho9 hg9);(obtain⟨p9,c9,e9,hO9⟩:=oown_more (GOwn.snoc (x:=(⟨4,u,v,⟨#[]⟩⟩:OpM)) ho9) HO9e.out);subst e9;have HO9:=Lib.hid hO9;have HG9:=Lib.hid hg9;clear ho9 hg9 hO9)
                go_roundw
                case rel=>exact⟨q+1,ops9,p9,c9,.inl hlt,by go_num,rfl,HN9,HP3.out.op HO9.out HG9.out⟩
                case measure=>simp [intOf];omega
            ·
             have HE:Hid (ops2=ops++tiesTo R ks at' m):=by
              show _=_
              rcases Nat.eq_zero_or_pos m with h0|h0
              ·
               have hq0:q=0:=by omega
               rw [HO2.out,hq0,ties_one,h0,ties_zero]
              ·
               have hqm:q+1=m:=by omega
               rw [HO2.out,hqm]
             have hww:w.heap.size≤w3.heap.size:=by
              have:=HB.out.size;have:=HB1.out.size;have:=HB3.out.size;omega
             have HOf:=Lib.hid (HP2.out.mo.own.base hww)
             have HBf:=Lib.hid (bov HB.out HB.out.size (bov HB1.out HB1.out.size HBr.out))
             have d1:decide ((q:Int)+1<(m:Int))=false:=decide_eq_false (by omega)
             go_wp2_with fail
             go_ret
             exact⟨_,rfl,(by rw [← HTX.out,← HPS.out,← HMM.out,← HKS.out,← HKL2.out,← HAD.out];show GOwn _ _ _ _ _ _ (ops++tiesTo R ks at' m);rw [← HE.out];exact HOf.out),HBf.out⟩
end Go.Proofs.YtllcipobiengiaaGreat
