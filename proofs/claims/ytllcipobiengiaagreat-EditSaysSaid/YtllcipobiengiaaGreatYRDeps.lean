/- Contract of op.Good. Contract of bruitref17.Good. Rows of things that are several cells each: []api.Pid, []api.Vid, []api.Op, []api.Vert. Contracts of bruitref10.Set and bruitref11.Set. Contract of bruitref10.Same. Contract of bruitref18.Deps. -/
import Derived.Test.YtllcipobiengiaaGreatYRefs
import Derived.Test.YtllcipobiengiaaGreatYWordB
namespace Go.Proofs.YtllcipobiengiaaGreat
open Go Go.RowKit

theorem eql_zero(x:VidM)(b:Bool)(h:decide (x=noVid)=b)(w:World):(binOp .eql 40 (.agg #[.int .u8 x.pid.author.toNat,.int .u16 x.pid.seq.toNat,.int .u8 x.n.toNat]) (.agg #[.int .u8 0,.int .u16 0,.int .u8 0])).run Tryz.prog w=.ok (.bool b) w:=eql_vid x noVid b h w
/-- what a row of names holds -/
theorem VRow.form{w:World}{v:Value}{vs:List VidM}(h:VRow w v vs):∃ a cap,v=.slice a vs.length cap∧vs.length≤cap∧cap≤maxLen∧(vs.length=0∨∃ b off,a=some ⟨b,off,none⟩∧b<w.heap.size∧∀ i x,vs[i]? = some x →
  w.cell? ⟨b,off+i*3,none⟩=some (.int .u8 x.pid.author.toNat)∧w.cell? ⟨b,off+i*3+1,none⟩=some (.int .u16 x.pid.seq.toNat)∧w.cell? ⟨b,off+i*3+2,none⟩=some (.int .u8 x.n.toNat)):=by
 obtain⟨a,cap,e1,e2,e3,_,e5⟩:=Row.form h
 refine⟨a,cap,e1,e2,e3,e5.imp id ?_⟩
 rintro⟨b,off,rfl,hb,hc⟩
 have hf:∀ x:VidM,(encVid x).length=3:=fun _=>rfl
 exact⟨b,off,rfl,hb,fun i x hx=>⟨Row.elem (j:=0) hf hc hx rfl,Row.elem (j:=1) hf hc hx rfl,Row.elem (j:=2) hf hc hx rfl⟩⟩
theorem opGood_no{id:PidM}{i:Nat}{o:OpM}{k:Nat}{v:VidM}(hv:(refsM o)[k]? = some v)(h:refOk id i v=false):opGood id i o=false:=by
 unfold opGood
 have:(refsM o).all (refOk id i)=false:=by
  rw [List.all_eq_false]
  exact⟨v,List.mem_of_getElem? hv,by simp [h]⟩
 rw [this];rfl
theorem opGood_all{id:PidM}{i:Nat}{o:OpM}(h:(refsM o).all (refOk id i)=true):opGood id i o=opTail id o:=by unfold opGood;rw [h];rfl
theorem all_take{id:PidM}{i:Nat}{l:List VidM}{k:Nat}{v:VidM}(hv:l[k]? = some v)(h:(l.take k).all (refOk id i)=true)(h':refOk id i v=true):(l.take (k+1)).all (refOk id i)=true:=by
 rw [tsg hv,List.all_append,h];simp [h']
theorem refOk_bad{id:PidM}{i:Nat}{v:VidM}(h:goodVid v=false):refOk id i v=false:=by unfold refOk;rw [h];rfl
theorem refOk_far{id:PidM}{i:Nat}{v:VidM}(h:goodVid v=true)(h':¬ v.pid=id):refOk id i v=true:=by unfold refOk;simp [h,h']
theorem refOk_own{id:PidM}{i:Nat}{v:VidM}(h:goodVid v=true)(h':v.pid=id):refOk id i v = !decide (i≤v.n.toNat):=by unfold refOk;simp [h,h']
def OgRel(w0:World)(id:PidM)(i:Nat)(o:OpM)(v:Value)(wr:World):Prop:=∃ k:Nat,k≤(refsM o).length∧v=.int .i64 k∧Hid (((refsM o).take k).all (refOk id i)=true)∧Below w0.heap.size w0 wr
theorem opTail_1{id:PidM}{o:OpM}(h:o.kind.toNat=1):opTail id o=(decide (o.at'=noVid) && (decide (o.to=noVid) && decide (o.text.size=0))):=by
 have e:o.kind=1:=(u8_nat _ 1 (by omega)).2 h
 unfold opTail;rw [e];rfl
theorem opTail_2{id:PidM}{o:OpM}(h:o.kind.toNat=2):opTail id o=(decide (o.to=noVid) && nameOk o.text):=by
 have e:o.kind=2:=(u8_nat _ 2 (by omega)).2 h
 unfold opTail;rw [e];rfl
theorem opTail_3{id:PidM}{o:OpM}(h:o.kind.toNat=3):opTail id o=(decide (o.to=noVid) && lineOk o.text):=by
 have e:o.kind=3:=(u8_nat _ 3 (by omega)).2 h
 unfold opTail;rw [e];rfl
theorem opTail_4{id:PidM}{o:OpM}(h:o.kind.toNat=4):opTail id o=(decide (o.at'≠o.to) && decide (o.text.size=0)):=by
 have e:o.kind=4:=(u8_nat _ 4 (by omega)).2 h
 unfold opTail;rw [e];rfl
theorem opTail_5{id:PidM}{o:OpM}(h:o.kind.toNat=5):opTail id o=(decide (o.at'.pid≠id) && (decide (o.to=noVid) && decide (o.text.size=0))):=by
 have e:o.kind=5:=(u8_nat _ 5 (by omega)).2 h
 unfold opTail;rw [e];rfl
theorem opTail_6{id:PidM}{o:OpM}(h:¬ o.kind.toNat=1∧¬ o.kind.toNat=2∧¬ o.kind.toNat=3∧¬ o.kind.toNat=4∧¬ o.kind.toNat=5):opTail id o=false:=by
 obtain⟨h1,h2,h3,h4,h5⟩:=h
 have n1:¬ o.kind=1:=fun e=>h1 (by rw [e];rfl)
 have n2:¬ o.kind=2:=fun e=>h2 (by rw [e];rfl)
 have n3:¬ o.kind=3:=fun e=>h3 (by rw [e];rfl)
 have n4:¬ o.kind=4:=fun e=>h4 (by rw [e];rfl)
 have n5:¬ o.kind=5:=fun e=>h5 (by rw [e];rfl)
 unfold opTail
 rw [if_neg n1,if_neg n2,if_neg n3,if_neg n4,if_neg n5]
theorem refs_len(o:OpM):(refsM o).length≤2:=by
 unfold refsM
 split
 ·
  simp
 ·
  split <;> simp
attribute [local irreducible] refsM refOk goodVid opGood opTail
set_option maxHeartbeats 10000000 in
set_option maxRecDepth 100000 in
theorem pogood_any(id:PidM)(i:Nat)(o:OpM)(w:World)(hi:i<4611686018427387904)(hz:o.text.size≤maxLen) :
  Calls Tryz.prog 112 #[pidV id,.int .i64 i,opV o] w fun e w'=>e=.returned (.bool (opGood id i o))∧Below w.heap.size w w':=by
 have HZ:=Lib.hid hz
 have hrl:=refs_len o
 have HA:=Lib.hid ((anw w #[.int .u8 id.author.toNat,.int .u16 id.seq.toNat] 26).alloc (.cells #[.int .u8 o.kind.toNat,.int .u8 o.at'.pid.author.toNat,.int .u16 o.at'.pid.seq.toNat,.int .u8 o.at'.n.toNat,.int .u8 o.to.pid.author.toNat,.int .u16 o.to.pid.seq.toNat,.int .u8 o.to.n.toNat,.string o.text] 58))
 have HC:=Lib.hid (an2 w (.cells #[.int .u8 id.author.toNat,.int .u16 id.seq.toNat] 26) #[.int .u8 o.kind.toNat,.int .u8 o.at'.pid.author.toNat,.int .u16 o.at'.pid.seq.toNat,.int .u8 o.at'.n.toNat,.int .u8 o.to.pid.author.toNat,.int .u16 o.to.pid.seq.toNat,.int .u8 o.to.n.toNat,.string o.text] 58)
 have HB:=Lib.hid ((bnew (w:=w) (.cells #[.int .u8 id.author.toNat,.int .u16 id.seq.toNat] 26)).alloc (by simp) (.cells #[.int .u8 o.kind.toNat,.int .u8 o.at'.pid.author.toNat,.int .u16 o.at'.pid.seq.toNat,.int .u8 o.at'.n.toNat,.int .u8 o.to.pid.author.toNat,.int .u16 o.to.pid.seq.toNat,.int .u8 o.to.n.toNat,.string o.text] 58))
 have gp:=fun p q xs ys w=>guard_pid .eql p q xs ys w
 have gp2:=fun p q xs ys w=>guard_pid .neq p q xs ys w
 have gv:=fun p q xs ys w=>guard_vid .eql p q xs ys w
 have gv2:=fun p q xs ys w=>guard_vid .neq p q xs ys w
 clear hz
 unfold pidV opV
 go_enter Tryz.func112,Tryz.ntmps112
 go_wp2_with fail
 generalize hw0:(w.alloc (.cells #[.int .u8 id.author.toNat,.int .u16 id.seq.toNat] 26)).alloc (.cells #[.int .u8 o.kind.toNat,.int .u8 o.at'.pid.author.toNat,.int .u16 o.at'.pid.seq.toNat,.int .u8 o.at'.n.toNat,.int .u8 o.to.pid.author.toNat,.int .u16 o.to.pid.seq.toNat,.int .u8 o.to.n.toNat,.string o.text] 58)=w0 at *
 clear hw0
 refine(prefs_any o _).mono ?_
 rintro e w1 ⟨v1,rfl,hv1,hb1⟩
 obtain⟨a,cap,rfl,h1,h2,hc⟩:=(RefsAt.vrow hv1).form
 unfold maxLen at h2
 have HCv:=Lib.hid hc
 have HB1:=Lib.hid hb1
 clear hv1 hc hb1
 go_wp2_with fail
 go_loopw [13] (fun v wr=>OgRel w1 id i o v wr) (fun v _=>(refsM o).length - (intOf v).toNat)
 case atStart=>exact⟨0,by omega,rfl,rfl,Below.refl _ _⟩
 case round =>
  obtain⟨k,hk,rfl,HK,hbl⟩:=hrel
  have HBw:=Lib.hid (bov HB1.out HB1.out.size hbl)
  by_cases hlt:k<(refsM o).length
  ·
   obtain⟨b,off,rfl,sb,hcc⟩:=HCv.out.resolve_left (by omega)
   obtain⟨v,hv⟩:=gol hlt
   obtain⟨x0,x1,x2⟩:=hcc k v hv
   have r0:=(hbl.cell (p:=⟨b,off+k*3,none⟩) sb).trans x0
   have r1:=(hbl.cell (p:=⟨b,off+k*3+1,none⟩) sb).trans x1
   have r2:=(hbl.cell (p:=⟨b,off+k*3+2,none⟩) sb).trans x2
   have sb':b<wr.heap.size:=Nat.lt_of_lt_of_le sb hbl.size
   have HV:=Lib.hid hv
   have HAr:=Lib.hid (HA.out.over HBw.out)
   have HN:=Lib.hid (bov hbl hbl.size (bnew (w:=wr) (.cells #[.int .u8 v.pid.author.toNat,.int .u16 v.pid.seq.toNat,.int .u8 v.n.toNat] 40)))
   have HAn:=Lib.hid (anw wr #[.int .u8 v.pid.author.toNat,.int .u16 v.pid.seq.toNat,.int .u8 v.n.toNat] 40)
   have hnl:=v.n.toNat_lt
   clear x0 x1 x2 hcc hv
   cases hg:goodVid v with
   | false =>
    have HO:=Lib.hid (opGood_no HV.out (refOk_bad (id:=id) (i:=i) hg))
    have HG:=Lib.hid hg
    clear hg
    go_wp2_with fail
    refine(pgoodVid_any v _).mono ?_
    rintro e w3 ⟨rfl,hb3⟩
    rw [HG.out]
    have HB3:=Lib.hid (bov HN.out HN.out.size hb3)
    have HA3:=Lib.hid ((HAr.out.alloc (.cells #[.int .u8 v.pid.author.toNat,.int .u16 v.pid.seq.toNat,.int .u8 v.n.toNat] 40)).over hb3)
    have HV3:=Lib.hid (HAn.out.over hb3)
    have i0:=HA3.out.cell (j:=0) rfl
    have i1:=HA3.out.cell (j:=1) rfl
    have si:=HA3.out.lt
    have v0:=HV3.out.cell (j:=0) rfl
    have v1:=HV3.out.cell (j:=1) rfl
    have v2:=HV3.out.cell (j:=2) rfl
    have sv:=HV3.out.lt
    clear hb3 r0 r1 r2 sb'
    go_wp2_with fail
    go_ret
    exact⟨rvl (congrArg Value.bool HO.out.symm),bov HB.out HB.out.size (bov HB1.out HB1.out.size HB3.out)⟩
   | true =>
    have HG:=Lib.hid hg
    by_cases hp:v.pid=id
    ·
     have e1:=eql_pid v.pid id true (by simp [hp])
     unfold pidV at e1
     have HOw:=Lib.hid (refOk_own (i:=i) hg hp)
     clear hg hp
     by_cases hn:i≤v.n.toNat
     ·
      have e2:decide (i≤v.n.toNat)=true:=by simpa using hn
      have HO:=Lib.hid (opGood_no HV.out (HOw.out.trans (by simp [hn])))
      go_wp2_with fail
      refine(pgoodVid_any v _).mono ?_
      rintro e w3 ⟨rfl,hb3⟩
      rw [HG.out]
      have HB3:=Lib.hid (bov HN.out HN.out.size hb3)
      have HA3:=Lib.hid ((HAr.out.alloc (.cells #[.int .u8 v.pid.author.toNat,.int .u16 v.pid.seq.toNat,.int .u8 v.n.toNat] 40)).over hb3)
      have HV3:=Lib.hid (HAn.out.over hb3)
      have i0:=HA3.out.cell (j:=0) rfl
      have i1:=HA3.out.cell (j:=1) rfl
      have si:=HA3.out.lt
      have v0:=HV3.out.cell (j:=0) rfl
      have v1:=HV3.out.cell (j:=1) rfl
      have v2:=HV3.out.cell (j:=2) rfl
      have sv:=HV3.out.lt
      clear hb3 r0 r1 r2 sb'
      go_wp2_with fail
      go_ret
      exact⟨rvl (congrArg Value.bool HO.out.symm),bov HB.out HB.out.size (bov HB1.out HB1.out.size HB3.out)⟩
     ·
      have e2:decide (i≤v.n.toNat)=false:=by simpa using hn
      have HK2:Hid (((refsM o).take (k+1)).all (refOk id i)=true):=all_take HV.out HK.out (HOw.out.trans (by simp [hn]))
      go_wp2_with fail
      refine(pgoodVid_any v _).mono ?_
      rintro e w3 ⟨rfl,hb3⟩
      rw [HG.out]
      have HB3:=Lib.hid (bov HN.out HN.out.size hb3)
      have HA3:=Lib.hid ((HAr.out.alloc (.cells #[.int .u8 v.pid.author.toNat,.int .u16 v.pid.seq.toNat,.int .u8 v.n.toNat] 40)).over hb3)
      have HV3:=Lib.hid (HAn.out.over hb3)
      have i0:=HA3.out.cell (j:=0) rfl
      have i1:=HA3.out.cell (j:=1) rfl
      have si:=HA3.out.lt
      have v0:=HV3.out.cell (j:=0) rfl
      have v1:=HV3.out.cell (j:=1) rfl
      have v2:=HV3.out.cell (j:=2) rfl
      have sv:=HV3.out.lt
      clear hb3 r0 r1 r2 sb'
      go_wp2_with fail
      go_roundw
      case rel=>exact⟨k+1,hlt,by go_num,HK2,HB3.out⟩
      case measure=>simp [intOf];omega
    ·
     have e1:=eql_pid v.pid id false (by simp [hp])
     unfold pidV at e1
     have HK2:Hid (((refsM o).take (k+1)).all (refOk id i)=true):=all_take HV.out HK.out (refOk_far hg hp)
     clear hg hp
     go_wp2_with fail
     refine(pgoodVid_any v _).mono ?_
     rintro e w3 ⟨rfl,hb3⟩
     rw [HG.out]
     have HB3:=Lib.hid (bov HN.out HN.out.size hb3)
     have HA3:=Lib.hid ((HAr.out.alloc (.cells #[.int .u8 v.pid.author.toNat,.int .u16 v.pid.seq.toNat,.int .u8 v.n.toNat] 40)).over hb3)
     have HV3:=Lib.hid (HAn.out.over hb3)
     have i0:=HA3.out.cell (j:=0) rfl
     have i1:=HA3.out.cell (j:=1) rfl
     have si:=HA3.out.lt
     have v0:=HV3.out.cell (j:=0) rfl
     have v1:=HV3.out.cell (j:=1) rfl
     have v2:=HV3.out.cell (j:=2) rfl
     have sv:=HV3.out.lt
     clear hb3 r0 r1 r2 sb'
     go_wp2_with fail
     go_roundw
     case rel=>exact⟨k+1,hlt,by go_num,HK2,HB3.out⟩
     case measure=>simp [intOf];omega
  ·
   have HO:Hid (opGood id i o=opTail id o):=by
    refine opGood_all ?_
    have:=HK.out
    rwa [List.take_of_length_le (by omega)] at this
   have HAr:=Lib.hid (HA.out.over HBw.out)
   have HCr:=Lib.hid (HC.out.over HBw.out)
   have i0:=HAr.out.cell (j:=0) rfl
   have i1:=HAr.out.cell (j:=1) rfl
   have si:=HAr.out.lt
   have o0:=HCr.out.cell (j:=0) rfl
   have o1:=HCr.out.cell (j:=1) rfl
   have o2:=HCr.out.cell (j:=2) rfl
   have o3:=HCr.out.cell (j:=3) rfl
   have o4:=HCr.out.cell (j:=4) rfl
   have o5:=HCr.out.cell (j:=5) rfl
   have o6:=HCr.out.cell (j:=6) rfl
   have o7:=HCr.out.cell (j:=7) rfl
   have so:=HCr.out.lt
   have HBt:=Lib.hid (bov HB.out HB.out.size HBw.out)
   by_cases hk1:o.kind.toNat=1
   ·
    have hk:=hk1
    clear hk1
    by_cases hc0:o.to=noVid
    ·
     by_cases hc1:o.at'=noVid
     ·
      by_cases hc2:o.text.size=0
      ·
       have k1:((o.kind.toNat:Int) == 1)=true:=by simp;omega
       have a0:=eql_zero o.to true (by simp [hc0])
       have a1:=eql_zero o.at' true (by simp [hc1])
       have t1:o.text.toList=[]:=empty_tl hc2
       have HE:Hid (opGood id i o=true):=HO.out.trans ((opTail_1 hk).trans (by simp [hc0,hc1,hc2]))
       clear hk hc0 hc1 hc2
       go_wp2_with fail
       go_ret
       exact⟨rvl (congrArg Value.bool HE.out.symm),HBt.out⟩
      ·
       have k1:((o.kind.toNat:Int) == 1)=true:=by simp;omega
       have a0:=eql_zero o.to true (by simp [hc0])
       have a1:=eql_zero o.at' true (by simp [hc1])
       have t1:=nonempty_tl (s:=o.text) (by omega)
       have t2:=t1.1
       have t3:=t1.2
       clear t1
       have HE:Hid (opGood id i o=false):=HO.out.trans ((opTail_1 hk).trans (by simp [hc0,hc1,hc2]))
       clear hk hc0 hc1 hc2
       go_wp2_with fail
       go_ret
       exact⟨rvl (congrArg Value.bool HE.out.symm),HBt.out⟩
     ·
      have k1:((o.kind.toNat:Int) == 1)=true:=by simp;omega
      have a0:=eql_zero o.to true (by simp [hc0])
      have a1:=eql_zero o.at' false (by simp [hc1])
      have HE:Hid (opGood id i o=false):=HO.out.trans ((opTail_1 hk).trans (by simp [hc0,hc1]))
      clear hk hc0 hc1
      go_wp2_with fail
      go_ret
      exact⟨rvl (congrArg Value.bool HE.out.symm),HBt.out⟩
    ·
     have k1:((o.kind.toNat:Int) == 1)=true:=by simp;omega
     have a0:=eql_zero o.to false (by simp [hc0])
     have HE:Hid (opGood id i o=false):=HO.out.trans ((opTail_1 hk).trans (by simp [hc0]))
     clear hk hc0
     go_wp2_with fail
     go_ret
     exact⟨rvl (congrArg Value.bool HE.out.symm),HBt.out⟩
   ·
    by_cases hk2:o.kind.toNat=2
    ·
     have hk:=hk2
     clear hk2
     by_cases hc0:o.to=noVid
     ·
      have k1:((o.kind.toNat:Int) == 1)=false:=by simp;omega
      have k2:((o.kind.toNat:Int) == 2)=true:=by simp;omega
      have a0:=eql_zero o.to true (by simp [hc0])
      have HE:Hid (opGood id i o=nameOk o.text):=HO.out.trans ((opTail_2 hk).trans (by simp [hc0]))
      clear hk hc0
      go_wp2_with fail
      refine(name_any o.text _ HZ.out).mono ?_
      rintro e w5 ⟨rfl,hb5⟩
      have HB5:=Lib.hid (bov HBt.out HBt.out.size hb5)
      clear hb5
      go_wp2_with fail
      go_ret
      exact⟨rvl (congrArg Value.bool HE.out.symm),HB5.out⟩
     ·
      have k1:((o.kind.toNat:Int) == 1)=false:=by simp;omega
      have k2:((o.kind.toNat:Int) == 2)=true:=by simp;omega
      have a0:=eql_zero o.to false (by simp [hc0])
      have HE:Hid (opGood id i o=false):=HO.out.trans ((opTail_2 hk).trans (by simp [hc0]))
      clear hk hc0
      go_wp2_with fail
      go_ret
      exact⟨rvl (congrArg Value.bool HE.out.symm),HBt.out⟩
    ·
     by_cases hk3:o.kind.toNat=3
     ·
      have hk:=hk3
      clear hk3
      by_cases hc0:o.to=noVid
      ·
       have k1:((o.kind.toNat:Int) == 1)=false:=by simp;omega
       have k2:((o.kind.toNat:Int) == 2)=false:=by simp;omega
       have k3:((o.kind.toNat:Int) == 3)=true:=by simp;omega
       have a0:=eql_zero o.to true (by simp [hc0])
       have HE:Hid (opGood id i o=lineOk o.text):=HO.out.trans ((opTail_3 hk).trans (by simp [hc0]))
       clear hk hc0
       go_wp2_with fail
       refine(line_any o.text _ HZ.out).mono ?_
       rintro e w5 ⟨rfl,hb5⟩
       have HB5:=Lib.hid (bov HBt.out HBt.out.size hb5)
       clear hb5
       go_wp2_with fail
       go_ret
       exact⟨rvl (congrArg Value.bool HE.out.symm),HB5.out⟩
      ·
       have k1:((o.kind.toNat:Int) == 1)=false:=by simp;omega
       have k2:((o.kind.toNat:Int) == 2)=false:=by simp;omega
       have k3:((o.kind.toNat:Int) == 3)=true:=by simp;omega
       have a0:=eql_zero o.to false (by simp [hc0])
       have HE:Hid (opGood id i o=false):=HO.out.trans ((opTail_3 hk).trans (by simp [hc0]))
       clear hk hc0
       go_wp2_with fail
       go_ret
       exact⟨rvl (congrArg Value.bool HE.out.symm),HBt.out⟩
     ·
      by_cases hk4:o.kind.toNat=4
      ·
       have hk:=hk4
       clear hk4
       by_cases hc0:o.at'=o.to
       ·
        have k1:((o.kind.toNat:Int) == 1)=false:=by simp;omega
        have k2:((o.kind.toNat:Int) == 2)=false:=by simp;omega
        have k3:((o.kind.toNat:Int) == 3)=false:=by simp;omega
        have k4:((o.kind.toNat:Int) == 4)=true:=by simp;omega
        have a0:=eql_zero o.to (decide (o.to=noVid)) rfl
        have a1:=neq_vid o.at' o.to false (by simp [hc0])
        unfold vidV at a1
        have HE:Hid (opGood id i o=false):=HO.out.trans ((opTail_4 hk).trans (by simp [hc0]))
        clear hk hc0
        go_wp2_with fail
        go_ret
        exact⟨rvl (congrArg Value.bool HE.out.symm),HBt.out⟩
       ·
        by_cases hc1:o.text.size=0
        ·
         have k1:((o.kind.toNat:Int) == 1)=false:=by simp;omega
         have k2:((o.kind.toNat:Int) == 2)=false:=by simp;omega
         have k3:((o.kind.toNat:Int) == 3)=false:=by simp;omega
         have k4:((o.kind.toNat:Int) == 4)=true:=by simp;omega
         have a0:=eql_zero o.to (decide (o.to=noVid)) rfl
         have a1:=neq_vid o.at' o.to true (by simp [hc0])
         unfold vidV at a1
         have t1:o.text.toList=[]:=empty_tl hc1
         have HE:Hid (opGood id i o=true):=HO.out.trans ((opTail_4 hk).trans (by simp [hc0,hc1]))
         clear hk hc0 hc1
         go_wp2_with fail
         go_ret
         exact⟨rvl (congrArg Value.bool HE.out.symm),HBt.out⟩
        ·
         have k1:((o.kind.toNat:Int) == 1)=false:=by simp;omega
         have k2:((o.kind.toNat:Int) == 2)=false:=by simp;omega
         have k3:((o.kind.toNat:Int) == 3)=false:=by simp;omega
         have k4:((o.kind.toNat:Int) == 4)=true:=by simp;omega
         have a0:=eql_zero o.to (decide (o.to=noVid)) rfl
         have a1:=neq_vid o.at' o.to true (by simp [hc0])
         unfold vidV at a1
         have t1:=nonempty_tl (s:=o.text) (by omega)
         have t2:=t1.1
         have t3:=t1.2
         clear t1
         have HE:Hid (opGood id i o=false):=HO.out.trans ((opTail_4 hk).trans (by simp [hc0,hc1]))
         clear hk hc0 hc1
         go_wp2_with fail
         go_ret
         exact⟨rvl (congrArg Value.bool HE.out.symm),HBt.out⟩
      ·
       by_cases hk5:o.kind.toNat=5
       ·
        have hk:=hk5
        clear hk5
        by_cases hc0:o.to=noVid
        ·
         by_cases hc1:o.at'.pid=id
         ·
          have k1:((o.kind.toNat:Int) == 1)=false:=by simp;omega
          have k2:((o.kind.toNat:Int) == 2)=false:=by simp;omega
          have k3:((o.kind.toNat:Int) == 3)=false:=by simp;omega
          have k4:((o.kind.toNat:Int) == 4)=false:=by simp;omega
          have k5:((o.kind.toNat:Int) == 5)=true:=by simp;omega
          have a0:=eql_zero o.to true (by simp [hc0])
          have a1:=neq_pid o.at'.pid id false (by simp [hc1])
          unfold pidV at a1
          have HE:Hid (opGood id i o=false):=HO.out.trans ((opTail_5 hk).trans (by simp [hc0,hc1]))
          clear hk hc0 hc1
          go_wp2_with fail
          go_ret
          exact⟨rvl (congrArg Value.bool HE.out.symm),HBt.out⟩
         ·
          by_cases hc2:o.text.size=0
          ·
           have k1:((o.kind.toNat:Int) == 1)=false:=by simp;omega
           have k2:((o.kind.toNat:Int) == 2)=false:=by simp;omega
           have k3:((o.kind.toNat:Int) == 3)=false:=by simp;omega
           have k4:((o.kind.toNat:Int) == 4)=false:=by simp;omega
           have k5:((o.kind.toNat:Int) == 5)=true:=by simp;omega
           have a0:=eql_zero o.to true (by simp [hc0])
           have a1:=neq_pid o.at'.pid id true (by simp [hc1])
           unfold pidV at a1
           have t1:o.text.toList=[]:=empty_tl hc2
           have HE:Hid (opGood id i o=true):=HO.out.trans ((opTail_5 hk).trans (by simp [hc0,hc1,hc2]))
           clear hk hc0 hc1 hc2
           go_wp2_with fail
           go_ret
           exact⟨rvl (congrArg Value.bool HE.out.symm),HBt.out⟩
          ·
           have k1:((o.kind.toNat:Int) == 1)=false:=by simp;omega
           have k2:((o.kind.toNat:Int) == 2)=false:=by simp;omega
           have k3:((o.kind.toNat:Int) == 3)=false:=by simp;omega
           have k4:((o.kind.toNat:Int) == 4)=false:=by simp;omega
           have k5:((o.kind.toNat:Int) == 5)=true:=by simp;omega
           have a0:=eql_zero o.to true (by simp [hc0])
           have a1:=neq_pid o.at'.pid id true (by simp [hc1])
           unfold pidV at a1
           have t1:=nonempty_tl (s:=o.text) (by omega)
           have t2:=t1.1
           have t3:=t1.2
           clear t1
           have HE:Hid (opGood id i o=false):=HO.out.trans ((opTail_5 hk).trans (by simp [hc0,hc1,hc2]))
           clear hk hc0 hc1 hc2
           go_wp2_with fail
           go_ret
           exact⟨rvl (congrArg Value.bool HE.out.symm),HBt.out⟩
        ·
         have k1:((o.kind.toNat:Int) == 1)=false:=by simp;omega
         have k2:((o.kind.toNat:Int) == 2)=false:=by simp;omega
         have k3:((o.kind.toNat:Int) == 3)=false:=by simp;omega
         have k4:((o.kind.toNat:Int) == 4)=false:=by simp;omega
         have k5:((o.kind.toNat:Int) == 5)=true:=by simp;omega
         have a0:=eql_zero o.to false (by simp [hc0])
         have HE:Hid (opGood id i o=false):=HO.out.trans ((opTail_5 hk).trans (by simp [hc0]))
         clear hk hc0
         go_wp2_with fail
         go_ret
         exact⟨rvl (congrArg Value.bool HE.out.symm),HBt.out⟩
       ·
        have a0:=eql_zero o.to (decide (o.to=noVid)) rfl
        have k1:((o.kind.toNat:Int) == 1)=false:=by simp;omega
        have k2:((o.kind.toNat:Int) == 2)=false:=by simp;omega
        have k3:((o.kind.toNat:Int) == 3)=false:=by simp;omega
        have k4:((o.kind.toNat:Int) == 4)=false:=by simp;omega
        have k5:((o.kind.toNat:Int) == 5)=false:=by simp;omega
        have HE:Hid (opGood id i o=false):=HO.out.trans (opTail_6 ⟨hk1,hk2,hk3,hk4,hk5⟩)
        clear hk1 hk2 hk3 hk4 hk5
        go_wp2_with fail
        go_ret
        exact⟨rvl (congrArg Value.bool HE.out.symm),HBt.out⟩
end Go.Proofs.YtllcipobiengiaaGreat
namespace Go.Proofs.YtllcipobiengiaaGreat
open Go Go.RowKit

attribute [local irreducible] refsM refOk goodVid opGood opTail
set_option maxHeartbeats 10000000 in
set_option maxRecDepth 100000 in
theorem rogood_any(id:PidM)(i:Nat)(o:OpM)(w:World)(hi:i<4611686018427387904)(hz:o.text.size≤maxLen) :
  Calls Tryz.prog 199 #[pidV id,.int .i64 i,opV o] w fun e w'=>e=.returned (.bool (opGood id i o))∧Below w.heap.size w w':=by
 have HZ:=Lib.hid hz
 have hrl:=refs_len o
 have HA:=Lib.hid ((anw w #[.int .u8 id.author.toNat,.int .u16 id.seq.toNat] 26).alloc (.cells #[.int .u8 o.kind.toNat,.int .u8 o.at'.pid.author.toNat,.int .u16 o.at'.pid.seq.toNat,.int .u8 o.at'.n.toNat,.int .u8 o.to.pid.author.toNat,.int .u16 o.to.pid.seq.toNat,.int .u8 o.to.n.toNat,.string o.text] 58))
 have HC:=Lib.hid (an2 w (.cells #[.int .u8 id.author.toNat,.int .u16 id.seq.toNat] 26) #[.int .u8 o.kind.toNat,.int .u8 o.at'.pid.author.toNat,.int .u16 o.at'.pid.seq.toNat,.int .u8 o.at'.n.toNat,.int .u8 o.to.pid.author.toNat,.int .u16 o.to.pid.seq.toNat,.int .u8 o.to.n.toNat,.string o.text] 58)
 have HB:=Lib.hid ((bnew (w:=w) (.cells #[.int .u8 id.author.toNat,.int .u16 id.seq.toNat] 26)).alloc (by simp) (.cells #[.int .u8 o.kind.toNat,.int .u8 o.at'.pid.author.toNat,.int .u16 o.at'.pid.seq.toNat,.int .u8 o.at'.n.toNat,.int .u8 o.to.pid.author.toNat,.int .u16 o.to.pid.seq.toNat,.int .u8 o.to.n.toNat,.string o.text] 58))
 have gp:=fun p q xs ys w=>guard_pid .eql p q xs ys w
 have gp2:=fun p q xs ys w=>guard_pid .neq p q xs ys w
 have gv:=fun p q xs ys w=>guard_vid .eql p q xs ys w
 have gv2:=fun p q xs ys w=>guard_vid .neq p q xs ys w
 clear hz
 unfold pidV opV
 go_enter Tryz.func199,Tryz.ntmps199
 go_wp2_with fail
 generalize hw0:(w.alloc (.cells #[.int .u8 id.author.toNat,.int .u16 id.seq.toNat] 26)).alloc (.cells #[.int .u8 o.kind.toNat,.int .u8 o.at'.pid.author.toNat,.int .u16 o.at'.pid.seq.toNat,.int .u8 o.at'.n.toNat,.int .u8 o.to.pid.author.toNat,.int .u16 o.to.pid.seq.toNat,.int .u8 o.to.n.toNat,.string o.text] 58)=w0 at *
 clear hw0
 refine(rrefs_any o _).mono ?_
 rintro e w1 ⟨v1,rfl,hv1,hb1⟩
 obtain⟨a,cap,rfl,h1,h2,hc⟩:=(RefsAt.vrow hv1).form
 unfold maxLen at h2
 have HCv:=Lib.hid hc
 have HB1:=Lib.hid hb1
 clear hv1 hc hb1
 go_wp2_with fail
 go_loopw [8] (fun v wr=>OgRel w1 id i o v wr) (fun v _=>(refsM o).length - (intOf v).toNat)
 case atStart=>exact⟨0,by omega,rfl,rfl,Below.refl _ _⟩
 case round =>
  obtain⟨k,hk,rfl,HK,hbl⟩:=hrel
  have HBw:=Lib.hid (bov HB1.out HB1.out.size hbl)
  by_cases hlt:k<(refsM o).length
  ·
   obtain⟨b,off,rfl,sb,hcc⟩:=HCv.out.resolve_left (by omega)
   obtain⟨v,hv⟩:=gol hlt
   obtain⟨x0,x1,x2⟩:=hcc k v hv
   have r0:=(hbl.cell (p:=⟨b,off+k*3,none⟩) sb).trans x0
   have r1:=(hbl.cell (p:=⟨b,off+k*3+1,none⟩) sb).trans x1
   have r2:=(hbl.cell (p:=⟨b,off+k*3+2,none⟩) sb).trans x2
   have sb':b<wr.heap.size:=Nat.lt_of_lt_of_le sb hbl.size
   have HV:=Lib.hid hv
   have HAr:=Lib.hid (HA.out.over HBw.out)
   have i0:=HAr.out.cell (j:=0) rfl
   have i1:=HAr.out.cell (j:=1) rfl
   have si:=HAr.out.lt
   have hnl:=v.n.toNat_lt
   clear x0 x1 x2 hcc hv
   cases hg:goodVid v with
   | false =>
    have HO:=Lib.hid (opGood_no HV.out (refOk_bad (id:=id) (i:=i) hg))
    have HG:=Lib.hid hg
    clear hg
    go_wp2_with fail
    have HG2:Hid (goodVid v=false):=HG.out
    have hcur:Below wr.heap.size wr wr.drew:=(Below.refl _ _).drew
    refine wlex (C:=IsOver wr) 25 [] (by kernel_rfl) (by kernel_rfl) (iov hcur) ?_
    simp only [List.take_succ_cons,List.take_zero,List.drop_succ_cons,List.drop_zero]
    repeat(first|(refine lxs rfl rfl ?_;simp only [Act.put,List.setIfInBounds_toArray,List.set_cons_succ,List.set_cons_zero])|(refine lxo rfl ?_;go_big_quiet_step (fail);refine wpQuiet_nil ?_)|(refine lxl rfl ?_;go_wp2_with (first|(go_at_call 225;(with_reducible refine(rgoodVid_any _ _).mono ?_);rintro e w' ⟨rfl,hb⟩;rw [HG2.out];replace hcur:=bov hcur hcur.size hb;clear hb));refine⟨iov hcur,?_⟩))
    refine lxe ?_
    have HB3:=Lib.hid (bov hbl hbl.size hcur)
    clear hcur
    go_wp2_with fail
    go_ret
    exact⟨rvl (congrArg Value.bool HO.out.symm),bov HB.out HB.out.size (bov HB1.out HB1.out.size HB3.out)⟩
   | true =>
    have HG:=Lib.hid hg
    by_cases hp:v.pid=id
    ·
     have e1:=eql_pid v.pid id true (by simp [hp])
     unfold pidV at e1
     have HOw:=Lib.hid (refOk_own (i:=i) hg hp)
     clear hg hp
     by_cases hn:i≤v.n.toNat
     ·
      have e2:decide (i≤v.n.toNat)=true:=by simpa using hn
      have HO:=Lib.hid (opGood_no HV.out (HOw.out.trans (by simp [hn])))
      go_wp2_with fail
      have HG2:Hid (goodVid v=true):=HG.out
      have hcur:Below wr.heap.size wr wr.drew:=(Below.refl _ _).drew
      refine wlex (C:=IsOver wr) 25 [] (by kernel_rfl) (by kernel_rfl) (iov hcur) ?_
      simp only [List.take_succ_cons,List.take_zero,List.drop_succ_cons,List.drop_zero]
      repeat(first|(refine lxs rfl rfl ?_;simp only [Act.put,List.setIfInBounds_toArray,List.set_cons_succ,List.set_cons_zero])|(refine lxo rfl ?_;go_big_quiet_step (fail);refine wpQuiet_nil ?_)|(refine lxl rfl ?_;go_wp2_with (first|(go_at_call 225;(with_reducible refine(rgoodVid_any _ _).mono ?_);rintro e w' ⟨rfl,hb⟩;rw [HG2.out];replace hcur:=bov hcur hcur.size hb;clear hb));refine⟨iov hcur,?_⟩))
      refine lxe ?_
      have HB3:=Lib.hid (bov hbl hbl.size hcur)
      clear hcur
      go_wp2_with fail
      go_ret
      exact⟨rvl (congrArg Value.bool HO.out.symm),bov HB.out HB.out.size (bov HB1.out HB1.out.size HB3.out)⟩
     ·
      have e2:decide (i≤v.n.toNat)=false:=by simpa using hn
      have HK2:Hid (((refsM o).take (k+1)).all (refOk id i)=true):=all_take HV.out HK.out (HOw.out.trans (by simp [hn]))
      go_wp2_with fail
      have HG2:Hid (goodVid v=true):=HG.out
      have hcur:Below wr.heap.size wr wr.drew:=(Below.refl _ _).drew
      refine wlex (C:=IsOver wr) 25 [] (by kernel_rfl) (by kernel_rfl) (iov hcur) ?_
      simp only [List.take_succ_cons,List.take_zero,List.drop_succ_cons,List.drop_zero]
      repeat(first|(refine lxs rfl rfl ?_;simp only [Act.put,List.setIfInBounds_toArray,List.set_cons_succ,List.set_cons_zero])|(refine lxo rfl ?_;go_big_quiet_step (fail);refine wpQuiet_nil ?_)|(refine lxl rfl ?_;go_wp2_with (first|(go_at_call 225;(with_reducible refine(rgoodVid_any _ _).mono ?_);rintro e w' ⟨rfl,hb⟩;rw [HG2.out];replace hcur:=bov hcur hcur.size hb;clear hb));refine⟨iov hcur,?_⟩))
      refine lxe ?_
      have HB3:=Lib.hid (bov hbl hbl.size hcur)
      clear hcur
      go_wp2_with fail
      go_roundw
      case rel=>exact⟨k+1,hlt,by go_num,HK2,HB3.out⟩
      case measure=>simp [intOf];omega
    ·
     have e1:=eql_pid v.pid id false (by simp [hp])
     unfold pidV at e1
     have HK2:Hid (((refsM o).take (k+1)).all (refOk id i)=true):=all_take HV.out HK.out (refOk_far hg hp)
     clear hg hp
     go_wp2_with fail
     have HG2:Hid (goodVid v=true):=HG.out
     have hcur:Below wr.heap.size wr wr.drew:=(Below.refl _ _).drew
     refine wlex (C:=IsOver wr) 25 [] (by kernel_rfl) (by kernel_rfl) (iov hcur) ?_
     simp only [List.take_succ_cons,List.take_zero,List.drop_succ_cons,List.drop_zero]
     repeat(first|(refine lxs rfl rfl ?_;simp only [Act.put,List.setIfInBounds_toArray,List.set_cons_succ,List.set_cons_zero])|(refine lxo rfl ?_;go_big_quiet_step (fail);refine wpQuiet_nil ?_)|(refine lxl rfl ?_;go_wp2_with (first|(go_at_call 225;(with_reducible refine(rgoodVid_any _ _).mono ?_);rintro e w' ⟨rfl,hb⟩;rw [HG2.out];replace hcur:=bov hcur hcur.size hb;clear hb));refine⟨iov hcur,?_⟩))
     refine lxe ?_
     have HB3:=Lib.hid (bov hbl hbl.size hcur)
     clear hcur
     go_wp2_with fail
     go_roundw
     case rel=>exact⟨k+1,hlt,by go_num,HK2,HB3.out⟩
     case measure=>simp [intOf];omega
  ·
   have HO:Hid (opGood id i o=opTail id o):=by
    refine opGood_all ?_
    have:=HK.out
    rwa [List.take_of_length_le (by omega)] at this
   have HAr:=Lib.hid (HA.out.over HBw.out)
   have HCr:=Lib.hid (HC.out.over HBw.out)
   have i0:=HAr.out.cell (j:=0) rfl
   have i1:=HAr.out.cell (j:=1) rfl
   have si:=HAr.out.lt
   have o0:=HCr.out.cell (j:=0) rfl
   have o1:=HCr.out.cell (j:=1) rfl
   have o2:=HCr.out.cell (j:=2) rfl
   have o3:=HCr.out.cell (j:=3) rfl
   have o4:=HCr.out.cell (j:=4) rfl
   have o5:=HCr.out.cell (j:=5) rfl
   have o6:=HCr.out.cell (j:=6) rfl
   have o7:=HCr.out.cell (j:=7) rfl
   have so:=HCr.out.lt
   have HBt:=Lib.hid (bov HB.out HB.out.size (bov HBw.out HBw.out.size (bnew (.cells #[.int .u8 0,.int .u16 0,.int .u8 0] 40))))
   by_cases hk1:o.kind.toNat=1
   ·
    have hk:=hk1
    clear hk1
    by_cases hc0:o.at'=noVid
    ·
     by_cases hc1:o.to=noVid
     ·
      by_cases hc2:o.text.size=0
      ·
       have k1:((o.kind.toNat:Int) == 1)=true:=by simp;omega
       have a1:=eql_zero o.at' true (by simp [hc0])
       have a0:=eql_zero o.to true (by simp [hc1])
       have t1:o.text.toList=[]:=empty_tl hc2
       have HE:Hid (opGood id i o=true):=HO.out.trans ((opTail_1 hk).trans (by simp [hc0,hc1,hc2]))
       clear hk hc0 hc1 hc2
       go_wp2_with fail
       go_ret
       exact⟨rvl (congrArg Value.bool HE.out.symm),HBt.out⟩
      ·
       have k1:((o.kind.toNat:Int) == 1)=true:=by simp;omega
       have a1:=eql_zero o.at' true (by simp [hc0])
       have a0:=eql_zero o.to true (by simp [hc1])
       have t1:=nonempty_tl (s:=o.text) (by omega)
       have t2:=t1.1
       have t3:=t1.2
       clear t1
       have HE:Hid (opGood id i o=false):=HO.out.trans ((opTail_1 hk).trans (by simp [hc0,hc1,hc2]))
       clear hk hc0 hc1 hc2
       go_wp2_with fail
       go_ret
       exact⟨rvl (congrArg Value.bool HE.out.symm),HBt.out⟩
     ·
      have k1:((o.kind.toNat:Int) == 1)=true:=by simp;omega
      have a1:=eql_zero o.at' true (by simp [hc0])
      have a0:=eql_zero o.to false (by simp [hc1])
      have HE:Hid (opGood id i o=false):=HO.out.trans ((opTail_1 hk).trans (by simp [hc0,hc1]))
      clear hk hc0 hc1
      go_wp2_with fail
      go_ret
      exact⟨rvl (congrArg Value.bool HE.out.symm),HBt.out⟩
    ·
     have k1:((o.kind.toNat:Int) == 1)=true:=by simp;omega
     have a1:=eql_zero o.at' false (by simp [hc0])
     have HE:Hid (opGood id i o=false):=HO.out.trans ((opTail_1 hk).trans (by simp [hc0]))
     clear hk hc0
     go_wp2_with fail
     go_ret
     exact⟨rvl (congrArg Value.bool HE.out.symm),HBt.out⟩
   ·
    by_cases hk2:o.kind.toNat=2
    ·
     have hk:=hk2
     clear hk2
     by_cases hc0:o.to=noVid
     ·
      have k1:((o.kind.toNat:Int) == 1)=false:=by simp;omega
      have k2:((o.kind.toNat:Int) == 2)=true:=by simp;omega
      have a0:=eql_zero o.to true (by simp [hc0])
      have HE:Hid (opGood id i o=nameOk o.text):=HO.out.trans ((opTail_2 hk).trans (by simp [hc0]))
      clear hk hc0
      go_wp2_with fail
      refine(rname_any o.text _ HZ.out).mono ?_
      rintro e w5 ⟨rfl,hb5⟩
      have HB5:=Lib.hid (bov HBt.out HBt.out.size hb5)
      clear hb5
      go_wp2_with fail
      go_ret
      exact⟨rvl (congrArg Value.bool HE.out.symm),HB5.out⟩
     ·
      have k1:((o.kind.toNat:Int) == 1)=false:=by simp;omega
      have k2:((o.kind.toNat:Int) == 2)=true:=by simp;omega
      have a0:=eql_zero o.to false (by simp [hc0])
      have HE:Hid (opGood id i o=false):=HO.out.trans ((opTail_2 hk).trans (by simp [hc0]))
      clear hk hc0
      go_wp2_with fail
      go_ret
      exact⟨rvl (congrArg Value.bool HE.out.symm),HBt.out⟩
    ·
     by_cases hk3:o.kind.toNat=3
     ·
      have hk:=hk3
      clear hk3
      by_cases hc0:o.to=noVid
      ·
       have k1:((o.kind.toNat:Int) == 1)=false:=by simp;omega
       have k2:((o.kind.toNat:Int) == 2)=false:=by simp;omega
       have k3:((o.kind.toNat:Int) == 3)=true:=by simp;omega
       have a0:=eql_zero o.to true (by simp [hc0])
       have HE:Hid (opGood id i o=lineOk o.text):=HO.out.trans ((opTail_3 hk).trans (by simp [hc0]))
       clear hk hc0
       go_wp2_with fail
       refine(rline_any o.text _ HZ.out).mono ?_
       rintro e w5 ⟨rfl,hb5⟩
       have HB5:=Lib.hid (bov HBt.out HBt.out.size hb5)
       clear hb5
       go_wp2_with fail
       go_ret
       exact⟨rvl (congrArg Value.bool HE.out.symm),HB5.out⟩
      ·
       have k1:((o.kind.toNat:Int) == 1)=false:=by simp;omega
       have k2:((o.kind.toNat:Int) == 2)=false:=by simp;omega
       have k3:((o.kind.toNat:Int) == 3)=true:=by simp;omega
       have a0:=eql_zero o.to false (by simp [hc0])
       have HE:Hid (opGood id i o=false):=HO.out.trans ((opTail_3 hk).trans (by simp [hc0]))
       clear hk hc0
       go_wp2_with fail
       go_ret
       exact⟨rvl (congrArg Value.bool HE.out.symm),HBt.out⟩
     ·
      by_cases hk4:o.kind.toNat=4
      ·
       have hk:=hk4
       clear hk4
       by_cases hc0:o.at'=o.to
       ·
        have k1:((o.kind.toNat:Int) == 1)=false:=by simp;omega
        have k2:((o.kind.toNat:Int) == 2)=false:=by simp;omega
        have k3:((o.kind.toNat:Int) == 3)=false:=by simp;omega
        have k4:((o.kind.toNat:Int) == 4)=true:=by simp;omega
        have a1:=neq_vid o.at' o.to false (by simp [hc0])
        unfold vidV at a1
        have HE:Hid (opGood id i o=false):=HO.out.trans ((opTail_4 hk).trans (by simp [hc0]))
        clear hk hc0
        go_wp2_with fail
        go_ret
        exact⟨rvl (congrArg Value.bool HE.out.symm),HBt.out⟩
       ·
        by_cases hc1:o.text.size=0
        ·
         have k1:((o.kind.toNat:Int) == 1)=false:=by simp;omega
         have k2:((o.kind.toNat:Int) == 2)=false:=by simp;omega
         have k3:((o.kind.toNat:Int) == 3)=false:=by simp;omega
         have k4:((o.kind.toNat:Int) == 4)=true:=by simp;omega
         have a1:=neq_vid o.at' o.to true (by simp [hc0])
         unfold vidV at a1
         have t1:o.text.toList=[]:=empty_tl hc1
         have HE:Hid (opGood id i o=true):=HO.out.trans ((opTail_4 hk).trans (by simp [hc0,hc1]))
         clear hk hc0 hc1
         go_wp2_with fail
         go_ret
         exact⟨rvl (congrArg Value.bool HE.out.symm),HBt.out⟩
        ·
         have k1:((o.kind.toNat:Int) == 1)=false:=by simp;omega
         have k2:((o.kind.toNat:Int) == 2)=false:=by simp;omega
         have k3:((o.kind.toNat:Int) == 3)=false:=by simp;omega
         have k4:((o.kind.toNat:Int) == 4)=true:=by simp;omega
         have a1:=neq_vid o.at' o.to true (by simp [hc0])
         unfold vidV at a1
         have t1:=nonempty_tl (s:=o.text) (by omega)
         have t2:=t1.1
         have t3:=t1.2
         clear t1
         have HE:Hid (opGood id i o=false):=HO.out.trans ((opTail_4 hk).trans (by simp [hc0,hc1]))
         clear hk hc0 hc1
         go_wp2_with fail
         go_ret
         exact⟨rvl (congrArg Value.bool HE.out.symm),HBt.out⟩
      ·
       by_cases hk5:o.kind.toNat=5
       ·
        have hk:=hk5
        clear hk5
        by_cases hc0:o.at'.pid=id
        ·
         have k1:((o.kind.toNat:Int) == 1)=false:=by simp;omega
         have k2:((o.kind.toNat:Int) == 2)=false:=by simp;omega
         have k3:((o.kind.toNat:Int) == 3)=false:=by simp;omega
         have k4:((o.kind.toNat:Int) == 4)=false:=by simp;omega
         have k5:((o.kind.toNat:Int) == 5)=true:=by simp;omega
         have a1:=neq_pid o.at'.pid id false (by simp [hc0])
         unfold pidV at a1
         have HE:Hid (opGood id i o=false):=HO.out.trans ((opTail_5 hk).trans (by simp [hc0]))
         clear hk hc0
         go_wp2_with fail
         go_ret
         exact⟨rvl (congrArg Value.bool HE.out.symm),HBt.out⟩
        ·
         by_cases hc1:o.to=noVid
         ·
          by_cases hc2:o.text.size=0
          ·
           have k1:((o.kind.toNat:Int) == 1)=false:=by simp;omega
           have k2:((o.kind.toNat:Int) == 2)=false:=by simp;omega
           have k3:((o.kind.toNat:Int) == 3)=false:=by simp;omega
           have k4:((o.kind.toNat:Int) == 4)=false:=by simp;omega
           have k5:((o.kind.toNat:Int) == 5)=true:=by simp;omega
           have a1:=neq_pid o.at'.pid id true (by simp [hc0])
           unfold pidV at a1
           have a0:=eql_zero o.to true (by simp [hc1])
           have t1:o.text.toList=[]:=empty_tl hc2
           have HE:Hid (opGood id i o=true):=HO.out.trans ((opTail_5 hk).trans (by simp [hc0,hc1,hc2]))
           clear hk hc0 hc1 hc2
           go_wp2_with fail
           go_ret
           exact⟨rvl (congrArg Value.bool HE.out.symm),HBt.out⟩
          ·
           have k1:((o.kind.toNat:Int) == 1)=false:=by simp;omega
           have k2:((o.kind.toNat:Int) == 2)=false:=by simp;omega
           have k3:((o.kind.toNat:Int) == 3)=false:=by simp;omega
           have k4:((o.kind.toNat:Int) == 4)=false:=by simp;omega
           have k5:((o.kind.toNat:Int) == 5)=true:=by simp;omega
           have a1:=neq_pid o.at'.pid id true (by simp [hc0])
           unfold pidV at a1
           have a0:=eql_zero o.to true (by simp [hc1])
           have t1:=nonempty_tl (s:=o.text) (by omega)
           have t2:=t1.1
           have t3:=t1.2
           clear t1
           have HE:Hid (opGood id i o=false):=HO.out.trans ((opTail_5 hk).trans (by simp [hc0,hc1,hc2]))
           clear hk hc0 hc1 hc2
           go_wp2_with fail
           go_ret
           exact⟨rvl (congrArg Value.bool HE.out.symm),HBt.out⟩
         ·
          have k1:((o.kind.toNat:Int) == 1)=false:=by simp;omega
          have k2:((o.kind.toNat:Int) == 2)=false:=by simp;omega
          have k3:((o.kind.toNat:Int) == 3)=false:=by simp;omega
          have k4:((o.kind.toNat:Int) == 4)=false:=by simp;omega
          have k5:((o.kind.toNat:Int) == 5)=true:=by simp;omega
          have a1:=neq_pid o.at'.pid id true (by simp [hc0])
          unfold pidV at a1
          have a0:=eql_zero o.to false (by simp [hc1])
          have HE:Hid (opGood id i o=false):=HO.out.trans ((opTail_5 hk).trans (by simp [hc0,hc1]))
          clear hk hc0 hc1
          go_wp2_with fail
          go_ret
          exact⟨rvl (congrArg Value.bool HE.out.symm),HBt.out⟩
       ·
        have k1:((o.kind.toNat:Int) == 1)=false:=by simp;omega
        have k2:((o.kind.toNat:Int) == 2)=false:=by simp;omega
        have k3:((o.kind.toNat:Int) == 3)=false:=by simp;omega
        have k4:((o.kind.toNat:Int) == 4)=false:=by simp;omega
        have k5:((o.kind.toNat:Int) == 5)=false:=by simp;omega
        have HE:Hid (opGood id i o=false):=HO.out.trans (opTail_6 ⟨hk1,hk2,hk3,hk4,hk5⟩)
        clear hk1 hk2 hk3 hk4 hk5
        go_wp2_with fail
        go_ret
        exact⟨rvl (congrArg Value.bool HE.out.symm),HBt.out⟩
end Go.Proofs.YtllcipobiengiaaGreat
namespace Go.Proofs.YtllcipobiengiaaGreat
open Go Go.RowKit

section
variable {α : Type} {enc : α → List Value} {sz : Nat} {e : TypeId}
def GRow(enc:α→List Value)(sz:Nat)(w:World)(v:Value)(xs:List α):Prop:=Row w v xs.length sz (xs.flatMap enc)
def GOwn(enc:α→List Value)(sz:Nat)(e:TypeId)(w:World)(B:Nat)(v:Value)(xs:List α):Prop:=w.ownsRow B e sz v xs.length (xs.flatMap enc)
theorem GOwn.row{w:World}{B:Nat}{v:Value}{xs:List α}(h:GOwn enc sz e w B v xs):GRow enc sz w v xs:=own_row h
theorem GRow.over{w w':World}{v:Value}{xs:List α}(h:GRow enc sz w v xs)(hb:Below w.heap.size w w'):GRow enc sz w' v xs:=Row.over h hb
theorem GOwn.over{w w':World}{B:Nat}{v:Value}{xs:List α}(h:GOwn enc sz e w B v xs)(hb:Below w.heap.size w w'):GOwn enc sz e w' B v xs:=own_over h hb
theorem grow_nil(w:World):GRow enc sz w (.slice none 0 0) []:=row_nil w sz
theorem gown_nil(w:World)(B:Nat):GOwn enc sz e w B (.slice none 0 0) []:=World.ownsRow_nil w B e sz
theorem GOwn.snoc{w:World}{B:Nat}{v:Value}{xs:List α}{x:α}(h:w.ownsRow B e sz v (xs.length+1) (xs.flatMap enc++enc x)):GOwn enc sz e w B v (xs++[x]):=by
 unfold GOwn
 rw [List.length_append,List.flatMap_append];simpa using h
/-- what a row holds, at each place, in whatever world lies over -/
theorem GRow.at{w:World}{v:Value}{xs:List α}(hf:∀ x,(enc x).length=sz)(h:GRow enc sz w v xs):∃ a cap,v=.slice a xs.length cap∧xs.length≤cap∧cap≤maxLen∧(xs.length=0∨∃ b off,a=some ⟨b,off,none⟩∧b<w.heap.size ∧
  ∀ i x,xs[i]? = some x→∀ W,Below w.heap.size w W→b<W.heap.size∧∀ j u,(enc x)[j]? = some u→W.cell? ⟨b,off+i*sz+j,none⟩=some u):=by
 obtain⟨a,cap,e1,e2,e3,_,e5⟩:=Row.form h
 refine⟨a,cap,e1,e2,e3,e5.imp id ?_⟩
 rintro⟨b,off,rfl,hb,hc⟩
 refine⟨b,off,rfl,hb,fun i x hx W hW=>⟨Nat.lt_of_lt_of_le hb hW.size,fun j u hu => ?_⟩⟩
 rw [hW.cell (p:=⟨b,off+i*sz+j,none⟩) hb]
 exact Row.elem hf hc hx hu
end
theorem own_cases{α:Type}{enc:α→List Value}{sz:Nat}{E:TypeId}{w:World}{B:Nat}{v:Value}{xs:List α}(h:GOwn enc sz E w B v xs):(xs=[]∧∃ p c,v=.slice p 0 c)∨(xs≠[]∧∃ g cap,v=.slice (some ⟨g,0,none⟩) xs.length cap∧OwnAt w B E sz g xs.length cap (xs.flatMap enc)):=by
 by_cases h0:xs=[]
 ·
  subst h0
  obtain⟨_,h2⟩:=h
  rcases h2 with⟨rfl,_⟩|⟨g,cap,cur,rfl,_⟩
  ·
   exact .inl ⟨rfl,_,_,rfl⟩
  ·
   exact .inl ⟨rfl,_,_,rfl⟩
 ·
  obtain⟨g,cap,h1,h2⟩:=own_at h (fun e=>h0 (List.eq_nil_of_length_eq_zero e))
  exact .inr ⟨h0,g,cap,h1,h2⟩
theorem encPid_len(p:PidM):(encPid p).length=2:=rfl
theorem encVid_len(p:VidM):(encVid p).length=3:=rfl
theorem encOp_len(p:OpM):(encOp p).length=8:=rfl
theorem encVert_len(p:VertM):(encVert p).length=9:=rfl
theorem slPid:SlT Tryz.prog 59 26 2 4:=slT_of Tryz.underlying59 (by kernel_rfl) (by decide)
theorem slVid:SlT Tryz.prog 37 40 3 6:=slT_of Tryz.underlying37 (by kernel_rfl) (by decide)
end Go.Proofs.YtllcipobiengiaaGreat
namespace Go.Proofs.YtllcipobiengiaaGreat
open Go Go.RowKit

section
variable {α : Type} {key : α → Nat}
/-- what the inner loop has still to do -/
def restS(key:α→Nat)(x:α)(t:Bool)(r:List α):List α:=if t=true then r else putS key x r
theorem restS_t(x:α)(r:List α):restS key x true r=r:=rfl
theorem restS_f(x:α)(r:List α):restS key x false r=putS key x r:=rfl
theorem putS_lt{x y:α}{r:List α}(h:key x<key y):putS key x (y :: r)=x :: y :: r:=by rw [putS,if_pos h]
theorem putS_eq{x y:α}{r:List α}(h:key x=key y):putS key x (y :: r)=y :: r:=by rw [putS,if_neg (by omega),if_pos h]
theorem putS_gt{x y:α}{r:List α}(h:key y<key x):putS key x (y :: r)=y :: putS key x r:=by rw [putS,if_neg (by omega),if_neg (by omega)]
theorem putS_nil(x:α):putS key x []=[x]:=rfl
theorem foldl_take{l:List α}{i:Nat}{x:α}(h:l[i]? = some x):(l.take (i+1)).foldl (fun out x=>putS key x out) []=putS key x ((l.take i).foldl (fun out x=>putS key x out) []):=by
 rw [tsg h,List.foldl_append];rfl
theorem drop_at{xs:List α}{k:Nat}{y:α}(h:xs[k]? = some y):xs.drop k=y :: xs.drop (k+1):=by
 obtain⟨hk,rfl⟩:=List.getElem?_eq_some_iff.1 h
 exact List.drop_eq_getElem_cons hk
theorem putS_len(x:α):∀ r:List α,(putS key x r).length≤r.length+1
 | []=>by simp [putS]
 | y :: r=>by
  rw [putS]
  split
  ·
   simp
  ·
   split
   ·
    simp
   ·
    have:=putS_len x r;simp;omega
theorem foldl_len:∀(l out:List α),(l.foldl (fun out x=>putS key x out) out).length≤out.length+l.length
 | [],out=>by simp
 | x :: l,out=>by
  have h1:=foldl_len l (putS key x out)
  have h2:=putS_len (key:=key) x out
  simp at h1 ⊢;omega
end
theorem restS_start(key:PidM→Nat)(x:PidM)(out:List PidM):putS key x out=[]++restS key x false (out.drop 0):=by simp [restS]
theorem restS_startV(key:VidM→Nat)(x:VidM)(out:List VidM):putS key x out=[]++restS key x false (out.drop 0):=by simp [restS]
def SetRes{α:Type}(enc:α→List Value)(sz:Nat)(w:World)(xs:List α)(e:Ending)(w':World):Prop:=∃ u,e=.returned u∧GRow enc sz w' u xs∧Below w.heap.size w w'
theorem cmpPid_lt{x y:PidM}(h:packPid x<packPid y):cmpPid x y = -1:=cmpN_lt h
theorem cmpPid_eq{x y:PidM}(h:packPid x=packPid y):cmpPid x y=0:=cmpN_eq h
theorem cmpPid_gt{x y:PidM}(h:packPid y<packPid x):cmpPid x y=1:=cmpN_gt h
theorem cmpVid_lt{x y:VidM}(h:packVid x<packVid y):cmpVid x y = -1:=cmpN_lt h
theorem cmpVid_eq{x y:VidM}(h:packVid x=packVid y):cmpVid x y=0:=cmpN_eq h
theorem cmpVid_gt{x y:VidM}(h:packVid y<packVid x):cmpVid x y=1:=cmpN_gt h
attribute [local irreducible] packPid packVid cmpN putS restS cmpPid cmpVid
def SetPidOut(w:World)(l:List PidM)(v3 v4:Value)(wr:World):Prop:=
 ∃ i:Nat,i≤l.length∧v4=.int .i64 i∧Hid (GRow encPid 2 wr v3 ((l.take i).foldl (fun out x=>putS packPid x out) []))∧Below w.heap.size w wr
def SetPidIn(wo:World)(x:PidM)(out:List PidM)(v5 v6 v7:Value)(wr:World):Prop:=
 ∃(k:Nat) (M:List PidM) (t:Bool),k≤out.length∧v7=.int .i64 k∧v6=.bool t∧M.length≤k+t.toNat∧Hid (GOwn encPid 2 26 wr wo.heap.size v5 M)∧Hid (putS packPid x out=M++restS packPid x t (out.drop k))∧Below wo.heap.size wo wr
set_option maxHeartbeats 20000000 in
set_option maxRecDepth 100000 in
theorem rsetPid_any(v:Value)(l:List PidM)(w:World)(hv:GRow encPid 2 w v l)(hl:l.length≤100000) :
  Calls Tryz.prog 198 #[v] w (SetRes encPid 2 w (setS packPid l)):=by
 obtain⟨a,cap,rfl,h1,h2,hc⟩:=hv.at encPid_len
 unfold maxLen at h2
 have HC:=Lib.hid hc
 clear hv hc
 go_enter Tryz.func198,Tryz.ntmps198
 go_wp2_with fail
 go_loopw [3,4] (fun v3 v4 wr=>SetPidOut w l v3 v4 wr) (fun _ v4 _=>l.length - (intOf v4).toNat)
 case atStart=>exact⟨0,by omega,rfl,grow_nil _,Below.refl _ _⟩
 case round =>
  rename World=>wo
  obtain⟨i,hi,rfl,HO,hbl⟩:=hrel
  by_cases hlt:i<l.length
  ·
   obtain⟨bl,ol,rfl,sl,hcl⟩:=HC.out.resolve_left (by omega)
   obtain⟨x,hx⟩:=gol hlt
   have HF:=Lib.hid (foldl_take (key:=packPid) hx)
   have hlen:=foldl_len (key:=packPid) (l.take i) []
   generalize hout:(l.take i).foldl (fun out x=>putS packPid x out) []=out at *
   have hol:out.length≤i:=by rw [List.length_take] at hlen;simp at hlen;omega
   have HXa:Hid (∀ W,Below wo.heap.size wo W→bl<W.heap.size∧∀ j u,(encPid x)[j]? = some u→W.cell? ⟨bl,ol+i*2+j,none⟩=some u):=fun W hW=>hcl i x hx W (bov hbl hbl.size hW)
   obtain⟨ao,co,rfl,o1,o2,hco⟩:=HO.out.at encPid_len
   unfold maxLen at o2
   have HCo:=Lib.hid hco
   have HBl:=Lib.hid hbl
   clear hx hcl hlen hco hbl hout
   go_wp2_with fail
   go_hide hQ
   go_loopw [5,6,7] (fun v5 v6 v7 wi=>SetPidIn wo x out v5 v6 v7 wi) (fun _ _ v7 _=>out.length - (intOf v7).toNat)
   case atStart=>exact⟨0,[],false,by omega,rfl,rfl,by simp,gown_nil _ _,restS_start _ _ _,Below.refl _ _⟩
   case round =>
    obtain⟨k,M,t,hk,rfl,rfl,hM,HM,HR,hbi⟩:=hrel
    have htn:=Bool.toNat_le t
    have hN:M.length+1≤1099511627776:=by omega
    by_cases hk2:k<out.length
    ·
     obtain⟨bo,oo,rfl,so,hcw⟩:=HCo.out.resolve_left (by omega)
     obtain⟨y,hy⟩:=gol hk2
     have HYa:Hid (∀ W,Below wo.heap.size wo W→bo<W.heap.size∧∀ j u,(encPid y)[j]? = some u→W.cell? ⟨bo,oo+k*2+j,none⟩=some u):=fun W hW=>hcw k y hy W hW
     have HR1:Hid (putS packPid x out=M++restS packPid x t (y :: out.drop (k+1))):=by show _=_;rw [← drop_at hy];exact HR.out
     have HBi:=Lib.hid hbi
     clear hy hcw hbi HR
     cases t with
     | true =>
      have hM1:M.length≤k+1:=hM
      have HN:Hid (putS packPid x out=(M++[y])++restS packPid x true (out.drop (k+1))):=by show _=_;rw [HR1.out,restS_t,restS_t];simp
      have HXw:=Lib.hid (HXa.out wr (HBi.out))
      have HYw:=Lib.hid (HYa.out wr (HBi.out))
      have x0:wr.cell? ⟨bl,ol+i*2,none⟩=some (.int .u8 x.author.toNat):=(HXw.out).2 0 _ rfl
      have x1:wr.cell? ⟨bl,ol+i*2+1,none⟩=some (.int .u16 x.seq.toNat):=(HXw.out).2 1 _ rfl
      have y0:wr.cell? ⟨bo,oo+k*2,none⟩=some (.int .u8 y.author.toNat):=(HYw.out).2 0 _ rfl
      have y1:wr.cell? ⟨bo,oo+k*2+1,none⟩=some (.int .u16 y.seq.toNat):=(HYw.out).2 1 _ rfl
      have sX:=HXw.out.1
      have sY:=HYw.out.1
      have hB:=HBi.out.size
      go_wp2_with fail
      have hcur:Below wr.heap.size wr wr.drew:=(Below.refl _ _).drew
      refine wlex (C:=IsOver wr) 14 [] (by kernel_rfl) (by kernel_rfl) (iov hcur) ?_
      simp only [List.take_succ_cons,List.take_zero,List.drop_succ_cons,List.drop_zero]
      repeat(first|(refine lxs rfl rfl ?_;simp only [Act.put,List.setIfInBounds_toArray,List.set_cons_succ,List.set_cons_zero])|(refine lxo rfl ?_;go_big_quiet_step (fail);refine wpQuiet_nil ?_))
      refine lxe ?_
      clear hcur
      go_wp2_with fail
      have hcur:Below wr.heap.size wr wr.drew.drew:=(Below.refl _ _).drew.drew
      refine wlex (C:=IsOver wr) 14 [] (by kernel_rfl) (by kernel_rfl) (iov (by repeat(first|exact Below.refl _ _|apply Below.drew|apply below_drewN|(refine Below.alloc ?_ (by simp) _)))) ?_
      simp only [List.take_succ_cons,List.take_zero,List.drop_succ_cons,List.drop_zero]
      repeat(first|(refine lxs rfl rfl ?_;simp only [Act.put,List.setIfInBounds_toArray,List.set_cons_succ,List.set_cons_zero])|(refine lxo rfl ?_;go_big_quiet_step (fail);refine wpQuiet_nil ?_))
      refine lxe ?_
      clear hcur
      go_wp2_with (at_builtin;(first|refine apD slPid rfl _ _ rfl wo.heap.size _ _ (dad _ _ _) 1 _ _ _ HM.out rfl rfl rfl rfl hN (by decide) hB ?_|refine apD slPid rfl _ _ rfl wo.heap.size _ _ (ddw _) 1 _ _ _ HM.out rfl rfl rfl rfl hN (by decide) hB ?_|refine apD slPid rfl _ _ rfl wo.heap.size _ _ (drf _) 1 _ _ _ HM.out rfl rfl rfl rfl hN (by decide) hB ?_);intro v2 w2 ho2 hg2)
      go_roundw
      case rel=>exact⟨k+1,M++[y],true,hk2,by go_num,rfl,by simp;omega,GOwn.snoc ho2,HN,bgr HBi.out HBi.out.size HM.out hg2⟩
      case measure=>simp [intOf];omega
     | false =>
      have hM0:M.length≤k:=hM
      by_cases hlt2:packPid x<packPid y
      ·
       have HK:Hid (cmpPid x y = -1):=cmpPid_lt hlt2
       have HN:Hid (putS packPid x out=(M++[x]++[y])++restS packPid x true (out.drop (k+1))):=by show _=_;rw [HR1.out,restS_f,restS_t,putS_lt hlt2];simp
       have hN2:(M++[x]).length+1≤1099511627776:=by simp;omega
       clear hlt2
       have HXw:=Lib.hid (HXa.out wr (HBi.out))
       have HYw:=Lib.hid (HYa.out wr (HBi.out))
       have x0:wr.cell? ⟨bl,ol+i*2,none⟩=some (.int .u8 x.author.toNat):=(HXw.out).2 0 _ rfl
       have x1:wr.cell? ⟨bl,ol+i*2+1,none⟩=some (.int .u16 x.seq.toNat):=(HXw.out).2 1 _ rfl
       have y0:wr.cell? ⟨bo,oo+k*2,none⟩=some (.int .u8 y.author.toNat):=(HYw.out).2 0 _ rfl
       have y1:wr.cell? ⟨bo,oo+k*2+1,none⟩=some (.int .u16 y.seq.toNat):=(HYw.out).2 1 _ rfl
       have sX:=HXw.out.1
       have sY:=HYw.out.1
       go_wp2_with fail
       have hcur:Below wr.heap.size wr wr.drew:=(Below.refl _ _).drew
       refine wlex (C:=IsOver wr) 14 [] (by kernel_rfl) (by kernel_rfl) (iov hcur) ?_
       simp only [List.take_succ_cons,List.take_zero,List.drop_succ_cons,List.drop_zero]
       repeat(first|(refine lxs rfl rfl ?_;simp only [Act.put,List.setIfInBounds_toArray,List.set_cons_succ,List.set_cons_zero])|(refine lxo rfl ?_;go_big_quiet_step (fail);refine wpQuiet_nil ?_)|(refine lxl rfl ?_;go_wp2_with (first|(go_at_call 201;(with_reducible refine(rcmpPid_any _ _ _).mono ?_);rintro e w5 ⟨rfl,hb⟩;rw [HK.out];replace hcur:=bov hcur hcur.size hb;clear hb));refine⟨iov hcur,?_⟩))
       refine lxe ?_
       have HB5:=Lib.hid (bov HBi.out HBi.out.size hcur)
       have HM5:=Lib.hid (HM.out.over hcur)
       have hB5:=HB5.out.size
       clear hcur x0 y0 x1 y1 sX sY
       have HXw:=Lib.hid (HXa.out w5 (HB5.out))
       have HYw:=Lib.hid (HYa.out w5 (HB5.out))
       have x0:w5.cell? ⟨bl,ol+i*2,none⟩=some (.int .u8 x.author.toNat):=(HXw.out).2 0 _ rfl
       have x1:w5.cell? ⟨bl,ol+i*2+1,none⟩=some (.int .u16 x.seq.toNat):=(HXw.out).2 1 _ rfl
       have y0:w5.cell? ⟨bo,oo+k*2,none⟩=some (.int .u8 y.author.toNat):=(HYw.out).2 0 _ rfl
       have y1:w5.cell? ⟨bo,oo+k*2+1,none⟩=some (.int .u16 y.seq.toNat):=(HYw.out).2 1 _ rfl
       have sX:=HXw.out.1
       have sY:=HYw.out.1
       go_wp2_with (at_builtin;(first|refine apD slPid rfl _ _ rfl wo.heap.size _ _ (dad _ _ _) 1 _ _ _ HM5.out rfl rfl rfl rfl hN (by decide) hB5 ?_|refine apD slPid rfl _ _ rfl wo.heap.size _ _ (ddw _) 1 _ _ _ HM5.out rfl rfl rfl rfl hN (by decide) hB5 ?_|refine apD slPid rfl _ _ rfl wo.heap.size _ _ (drf _) 1 _ _ _ HM5.out rfl rfl rfl rfl hN (by decide) hB5 ?_);intro v2 w2 ho2 hg2)
       have HB2:=Lib.hid (bgr HB5.out hB5 HM5.out hg2)
       have HM2:Hid (GOwn encPid 2 26 w2 wo.heap.size v2 (M++[x])):=GOwn.snoc ho2
       have hB2:=HB2.out.size
       clear hg2 ho2 x0 y0 x1 y1 sX sY
       have HXw:=Lib.hid (HXa.out w2 (HB2.out))
       have HYw:=Lib.hid (HYa.out w2 (HB2.out))
       have x0:w2.cell? ⟨bl,ol+i*2,none⟩=some (.int .u8 x.author.toNat):=(HXw.out).2 0 _ rfl
       have x1:w2.cell? ⟨bl,ol+i*2+1,none⟩=some (.int .u16 x.seq.toNat):=(HXw.out).2 1 _ rfl
       have y0:w2.cell? ⟨bo,oo+k*2,none⟩=some (.int .u8 y.author.toNat):=(HYw.out).2 0 _ rfl
       have y1:w2.cell? ⟨bo,oo+k*2+1,none⟩=some (.int .u16 y.seq.toNat):=(HYw.out).2 1 _ rfl
       have sX:=HXw.out.1
       have sY:=HYw.out.1
       go_wp2_with fail
       have hcur:Below w2.heap.size w2 w2.drew:=(Below.refl _ _).drew
       refine wlex (C:=IsOver w2) 14 [] (by kernel_rfl) (by kernel_rfl) (iov hcur) ?_
       simp only [List.take_succ_cons,List.take_zero,List.drop_succ_cons,List.drop_zero]
       repeat(first|(refine lxs rfl rfl ?_;simp only [Act.put,List.setIfInBounds_toArray,List.set_cons_succ,List.set_cons_zero])|(refine lxo rfl ?_;go_big_quiet_step (fail);refine wpQuiet_nil ?_))
       refine lxe ?_
       clear hcur
       go_wp2_with (at_builtin;(first|refine apD slPid rfl _ _ rfl wo.heap.size _ _ (dad _ _ _) 1 _ _ _ HM2.out rfl rfl rfl rfl hN2 (by decide) hB2 ?_|refine apD slPid rfl _ _ rfl wo.heap.size _ _ (ddw _) 1 _ _ _ HM2.out rfl rfl rfl rfl hN2 (by decide) hB2 ?_|refine apD slPid rfl _ _ rfl wo.heap.size _ _ (drf _) 1 _ _ _ HM2.out rfl rfl rfl rfl hN2 (by decide) hB2 ?_);intro v3 w3 ho3 hg3)
       go_roundw
       case rel=>exact⟨k+1,M++[x]++[y],true,hk2,by go_num,rfl,by simp;omega,GOwn.snoc ho3,HN,bgr HB2.out HB2.out.size HM2.out hg3⟩
       case measure=>simp [intOf];omega
      ·
       by_cases heq:packPid x=packPid y
       ·
        have HK:Hid (cmpPid x y=0):=cmpPid_eq heq
        have HN:Hid (putS packPid x out=(M++[y])++restS packPid x true (out.drop (k+1))):=by show _=_;rw [HR1.out,restS_f,putS_eq heq,restS_t];simp
        clear hlt2 heq
        have HXw:=Lib.hid (HXa.out wr (HBi.out))
        have HYw:=Lib.hid (HYa.out wr (HBi.out))
        have x0:wr.cell? ⟨bl,ol+i*2,none⟩=some (.int .u8 x.author.toNat):=(HXw.out).2 0 _ rfl
        have x1:wr.cell? ⟨bl,ol+i*2+1,none⟩=some (.int .u16 x.seq.toNat):=(HXw.out).2 1 _ rfl
        have y0:wr.cell? ⟨bo,oo+k*2,none⟩=some (.int .u8 y.author.toNat):=(HYw.out).2 0 _ rfl
        have y1:wr.cell? ⟨bo,oo+k*2+1,none⟩=some (.int .u16 y.seq.toNat):=(HYw.out).2 1 _ rfl
        have sX:=HXw.out.1
        have sY:=HYw.out.1
        go_wp2_with fail
        have hcur:Below wr.heap.size wr wr.drew:=(Below.refl _ _).drew
        refine wlex (C:=IsOver wr) 14 [] (by kernel_rfl) (by kernel_rfl) (iov hcur) ?_
        simp only [List.take_succ_cons,List.take_zero,List.drop_succ_cons,List.drop_zero]
        repeat(first|(refine lxs rfl rfl ?_;simp only [Act.put,List.setIfInBounds_toArray,List.set_cons_succ,List.set_cons_zero])|(refine lxo rfl ?_;go_big_quiet_step (fail);refine wpQuiet_nil ?_)|(refine lxl rfl ?_;go_wp2_with (first|(go_at_call 201;(with_reducible refine(rcmpPid_any _ _ _).mono ?_);rintro e w5 ⟨rfl,hb⟩;rw [HK.out];replace hcur:=bov hcur hcur.size hb;clear hb));refine⟨iov hcur,?_⟩))
        refine lxe ?_
        have HB5:=Lib.hid (bov HBi.out HBi.out.size hcur)
        have HM5:=Lib.hid (HM.out.over hcur)
        clear hcur x0 y0 x1 y1 sX sY
        have HXw:=Lib.hid (HXa.out w5 (HB5.out))
        have HYw:=Lib.hid (HYa.out w5 (HB5.out))
        have x0:w5.cell? ⟨bl,ol+i*2,none⟩=some (.int .u8 x.author.toNat):=(HXw.out).2 0 _ rfl
        have x1:w5.cell? ⟨bl,ol+i*2+1,none⟩=some (.int .u16 x.seq.toNat):=(HXw.out).2 1 _ rfl
        have y0:w5.cell? ⟨bo,oo+k*2,none⟩=some (.int .u8 y.author.toNat):=(HYw.out).2 0 _ rfl
        have y1:w5.cell? ⟨bo,oo+k*2+1,none⟩=some (.int .u16 y.seq.toNat):=(HYw.out).2 1 _ rfl
        have sX:=HXw.out.1
        have sY:=HYw.out.1
        go_wp2_with fail
        have hcur:Below w5.heap.size w5 w5.drew:=(Below.refl _ _).drew
        refine wlex (C:=IsOver w5) 14 [] (by kernel_rfl) (by kernel_rfl) (iov hcur) ?_
        simp only [List.take_succ_cons,List.take_zero,List.drop_succ_cons,List.drop_zero]
        repeat(first|(refine lxs rfl rfl ?_;simp only [Act.put,List.setIfInBounds_toArray,List.set_cons_succ,List.set_cons_zero])|(refine lxo rfl ?_;go_big_quiet_step (fail);refine wpQuiet_nil ?_)|(refine lxl rfl ?_;go_wp2_with (first|(go_at_call 201;(with_reducible refine(rcmpPid_any _ _ _).mono ?_);rintro e w6 ⟨rfl,hb⟩;rw [HK.out];replace hcur:=bov hcur hcur.size hb;clear hb));refine⟨iov hcur,?_⟩))
        refine lxe ?_
        have HB6:=Lib.hid (bov HB5.out HB5.out.size hcur)
        have HM6:=Lib.hid (HM5.out.over hcur)
        have hB6:=HB6.out.size
        clear hcur x0 y0 x1 y1 sX sY
        have HXw:=Lib.hid (HXa.out w6 (HB6.out))
        have HYw:=Lib.hid (HYa.out w6 (HB6.out))
        have x0:w6.cell? ⟨bl,ol+i*2,none⟩=some (.int .u8 x.author.toNat):=(HXw.out).2 0 _ rfl
        have x1:w6.cell? ⟨bl,ol+i*2+1,none⟩=some (.int .u16 x.seq.toNat):=(HXw.out).2 1 _ rfl
        have y0:w6.cell? ⟨bo,oo+k*2,none⟩=some (.int .u8 y.author.toNat):=(HYw.out).2 0 _ rfl
        have y1:w6.cell? ⟨bo,oo+k*2+1,none⟩=some (.int .u16 y.seq.toNat):=(HYw.out).2 1 _ rfl
        have sX:=HXw.out.1
        have sY:=HYw.out.1
        go_wp2_with (at_builtin;(first|refine apD slPid rfl _ _ rfl wo.heap.size _ _ (dad _ _ _) 1 _ _ _ HM6.out rfl rfl rfl rfl hN (by decide) hB6 ?_|refine apD slPid rfl _ _ rfl wo.heap.size _ _ (ddw _) 1 _ _ _ HM6.out rfl rfl rfl rfl hN (by decide) hB6 ?_|refine apD slPid rfl _ _ rfl wo.heap.size _ _ (drf _) 1 _ _ _ HM6.out rfl rfl rfl rfl hN (by decide) hB6 ?_);intro v2 w2 ho2 hg2)
        go_roundw
        case rel=>exact⟨k+1,M++[y],true,hk2,by go_num,rfl,by simp;omega,GOwn.snoc ho2,HN,bgr HB6.out HB6.out.size HM6.out hg2⟩
        case measure=>simp [intOf];omega
       ·
        have hgt:packPid y<packPid x:=by omega
        clear heq
        have HK:Hid (cmpPid x y=1):=cmpPid_gt hgt
        have HN:Hid (putS packPid x out=(M++[y])++restS packPid x false (out.drop (k+1))):=by show _=_;rw [HR1.out,restS_f,putS_gt hgt,restS_f];simp
        clear hlt2 hgt
        have HXw:=Lib.hid (HXa.out wr (HBi.out))
        have HYw:=Lib.hid (HYa.out wr (HBi.out))
        have x0:wr.cell? ⟨bl,ol+i*2,none⟩=some (.int .u8 x.author.toNat):=(HXw.out).2 0 _ rfl
        have x1:wr.cell? ⟨bl,ol+i*2+1,none⟩=some (.int .u16 x.seq.toNat):=(HXw.out).2 1 _ rfl
        have y0:wr.cell? ⟨bo,oo+k*2,none⟩=some (.int .u8 y.author.toNat):=(HYw.out).2 0 _ rfl
        have y1:wr.cell? ⟨bo,oo+k*2+1,none⟩=some (.int .u16 y.seq.toNat):=(HYw.out).2 1 _ rfl
        have sX:=HXw.out.1
        have sY:=HYw.out.1
        go_wp2_with fail
        have hcur:Below wr.heap.size wr wr.drew:=(Below.refl _ _).drew
        refine wlex (C:=IsOver wr) 14 [] (by kernel_rfl) (by kernel_rfl) (iov hcur) ?_
        simp only [List.take_succ_cons,List.take_zero,List.drop_succ_cons,List.drop_zero]
        repeat(first|(refine lxs rfl rfl ?_;simp only [Act.put,List.setIfInBounds_toArray,List.set_cons_succ,List.set_cons_zero])|(refine lxo rfl ?_;go_big_quiet_step (fail);refine wpQuiet_nil ?_)|(refine lxl rfl ?_;go_wp2_with (first|(go_at_call 201;(with_reducible refine(rcmpPid_any _ _ _).mono ?_);rintro e w5 ⟨rfl,hb⟩;rw [HK.out];replace hcur:=bov hcur hcur.size hb;clear hb));refine⟨iov hcur,?_⟩))
        refine lxe ?_
        have HB5:=Lib.hid (bov HBi.out HBi.out.size hcur)
        have HM5:=Lib.hid (HM.out.over hcur)
        clear hcur x0 y0 x1 y1 sX sY
        have HXw:=Lib.hid (HXa.out w5 (HB5.out))
        have HYw:=Lib.hid (HYa.out w5 (HB5.out))
        have x0:w5.cell? ⟨bl,ol+i*2,none⟩=some (.int .u8 x.author.toNat):=(HXw.out).2 0 _ rfl
        have x1:w5.cell? ⟨bl,ol+i*2+1,none⟩=some (.int .u16 x.seq.toNat):=(HXw.out).2 1 _ rfl
        have y0:w5.cell? ⟨bo,oo+k*2,none⟩=some (.int .u8 y.author.toNat):=(HYw.out).2 0 _ rfl
        have y1:w5.cell? ⟨bo,oo+k*2+1,none⟩=some (.int .u16 y.seq.toNat):=(HYw.out).2 1 _ rfl
        have sX:=HXw.out.1
        have sY:=HYw.out.1
        go_wp2_with fail
        have hcur:Below w5.heap.size w5 w5.drew:=(Below.refl _ _).drew
        refine wlex (C:=IsOver w5) 14 [] (by kernel_rfl) (by kernel_rfl) (iov hcur) ?_
        simp only [List.take_succ_cons,List.take_zero,List.drop_succ_cons,List.drop_zero]
        repeat(first|(refine lxs rfl rfl ?_;simp only [Act.put,List.setIfInBounds_toArray,List.set_cons_succ,List.set_cons_zero])|(refine lxo rfl ?_;go_big_quiet_step (fail);refine wpQuiet_nil ?_)|(refine lxl rfl ?_;go_wp2_with (first|(go_at_call 201;(with_reducible refine(rcmpPid_any _ _ _).mono ?_);rintro e w6 ⟨rfl,hb⟩;rw [HK.out];replace hcur:=bov hcur hcur.size hb;clear hb));refine⟨iov hcur,?_⟩))
        refine lxe ?_
        have HB6:=Lib.hid (bov HB5.out HB5.out.size hcur)
        have HM6:=Lib.hid (HM5.out.over hcur)
        have hB6:=HB6.out.size
        clear hcur x0 y0 x1 y1 sX sY
        have HXw:=Lib.hid (HXa.out w6 (HB6.out))
        have HYw:=Lib.hid (HYa.out w6 (HB6.out))
        have x0:w6.cell? ⟨bl,ol+i*2,none⟩=some (.int .u8 x.author.toNat):=(HXw.out).2 0 _ rfl
        have x1:w6.cell? ⟨bl,ol+i*2+1,none⟩=some (.int .u16 x.seq.toNat):=(HXw.out).2 1 _ rfl
        have y0:w6.cell? ⟨bo,oo+k*2,none⟩=some (.int .u8 y.author.toNat):=(HYw.out).2 0 _ rfl
        have y1:w6.cell? ⟨bo,oo+k*2+1,none⟩=some (.int .u16 y.seq.toNat):=(HYw.out).2 1 _ rfl
        have sX:=HXw.out.1
        have sY:=HYw.out.1
        go_wp2_with (at_builtin;(first|refine apD slPid rfl _ _ rfl wo.heap.size _ _ (dad _ _ _) 1 _ _ _ HM6.out rfl rfl rfl rfl hN (by decide) hB6 ?_|refine apD slPid rfl _ _ rfl wo.heap.size _ _ (ddw _) 1 _ _ _ HM6.out rfl rfl rfl rfl hN (by decide) hB6 ?_|refine apD slPid rfl _ _ rfl wo.heap.size _ _ (drf _) 1 _ _ _ HM6.out rfl rfl rfl rfl hN (by decide) hB6 ?_);intro v2 w2 ho2 hg2)
        go_roundw
        case rel=>exact⟨k+1,M++[y],false,hk2,by go_num,rfl,by simp;omega,GOwn.snoc ho2,HN,bgr HB6.out HB6.out.size HM6.out hg2⟩
        case measure=>simp [intOf];omega
    ·
     have hke:k=out.length:=by omega
     subst hke
     rw [List.drop_length] at HR
     have HBi:=Lib.hid hbi
     have hbw:=bov HBl.out HBl.out.size hbi
     cases t with
     | true =>
      have HE:Hid (putS packPid x out=M):=by show _=_;rw [HR.out,restS_t];simp
      go_wp2_with fail
      subst hQ
      go_wp2_with fail
      go_roundw
      case rel=>exact⟨i+1,hlt,by go_num,(by show GRow _ _ _ _ _;rw [HF.out,HE.out];exact HM.out.row),hbw⟩
      case measure=>simp [intOf];omega
     | false =>
      have HE:Hid (putS packPid x out=M++[x]):=by show _=_;rw [HR.out,restS_f,putS_nil]
      have HXw:=Lib.hid (HXa.out wr HBi.out)
      have x0:wr.cell? ⟨bl,ol+i*2,none⟩=some (.int .u8 x.author.toNat):=(HXw.out).2 0 _ rfl
      have x1:wr.cell? ⟨bl,ol+i*2+1,none⟩=some (.int .u16 x.seq.toNat):=(HXw.out).2 1 _ rfl
      have sX:=HXw.out.1
      have hB:=HBi.out.size
      go_wp2_with fail
      subst hQ
      go_wp2_with (at_builtin;(first|refine apD slPid rfl _ _ rfl wo.heap.size _ _ (dad _ _ _) 1 _ _ _ HM.out rfl rfl rfl rfl hN (by decide) hB ?_|refine apD slPid rfl _ _ rfl wo.heap.size _ _ (ddw _) 1 _ _ _ HM.out rfl rfl rfl rfl hN (by decide) hB ?_|refine apD slPid rfl _ _ rfl wo.heap.size _ _ (drf _) 1 _ _ _ HM.out rfl rfl rfl rfl hN (by decide) hB ?_);intro v2 w2 ho2 hg2)
      go_roundw
      case rel=>exact⟨i+1,hlt,by go_num,(by show GRow _ _ _ _ _;rw [HF.out,HE.out];exact(GOwn.snoc ho2).row),bov HBl.out HBl.out.size (bgr HBi.out hB HM.out hg2)⟩
      case measure=>simp [intOf];omega
  ·
   obtain rfl:i=l.length:=by omega
   have HE:=HO.out
   rw [List.take_length] at HE
   go_wp2_with fail
   go_ret
   exact⟨_,rfl,HE,hbl⟩

def SetVidOut(w:World)(l:List VidM)(v3 v4:Value)(wr:World):Prop:=
 ∃ i:Nat,i≤l.length∧v4=.int .i64 i∧Hid (GRow encVid 3 wr v3 ((l.take i).foldl (fun out x=>putS packVid x out) []))∧Below w.heap.size w wr
def SetVidIn(wo:World)(x:VidM)(out:List VidM)(v5 v6 v7:Value)(wr:World):Prop:=
 ∃(k:Nat) (M:List VidM) (t:Bool),k≤out.length∧v7=.int .i64 k∧v6=.bool t∧M.length≤k+t.toNat∧Hid (GOwn encVid 3 40 wr wo.heap.size v5 M)∧Hid (putS packVid x out=M++restS packVid x t (out.drop k))∧Below wo.heap.size wo wr
set_option maxHeartbeats 20000000 in
set_option maxRecDepth 100000 in
theorem rsetVid_any(v:Value)(l:List VidM)(w:World)(hv:GRow encVid 3 w v l)(hl:l.length≤100000) :
  Calls Tryz.prog 131 #[v] w (SetRes encVid 3 w (setS packVid l)):=by
 obtain⟨a,cap,rfl,h1,h2,hc⟩:=hv.at encVid_len
 unfold maxLen at h2
 have HC:=Lib.hid hc
 clear hv hc
 go_enter Tryz.func131,Tryz.ntmps131
 go_wp2_with fail
 go_loopw [3,4] (fun v3 v4 wr=>SetVidOut w l v3 v4 wr) (fun _ v4 _=>l.length - (intOf v4).toNat)
 case atStart=>exact⟨0,by omega,rfl,grow_nil _,Below.refl _ _⟩
 case round =>
  rename World=>wo
  obtain⟨i,hi,rfl,HO,hbl⟩:=hrel
  by_cases hlt:i<l.length
  ·
   obtain⟨bl,ol,rfl,sl,hcl⟩:=HC.out.resolve_left (by omega)
   obtain⟨x,hx⟩:=gol hlt
   have HF:=Lib.hid (foldl_take (key:=packVid) hx)
   have hlen:=foldl_len (key:=packVid) (l.take i) []
   generalize hout:(l.take i).foldl (fun out x=>putS packVid x out) []=out at *
   have hol:out.length≤i:=by rw [List.length_take] at hlen;simp at hlen;omega
   have HXa:Hid (∀ W,Below wo.heap.size wo W→bl<W.heap.size∧∀ j u,(encVid x)[j]? = some u→W.cell? ⟨bl,ol+i*3+j,none⟩=some u):=fun W hW=>hcl i x hx W (bov hbl hbl.size hW)
   obtain⟨ao,co,rfl,o1,o2,hco⟩:=HO.out.at encVid_len
   unfold maxLen at o2
   have HCo:=Lib.hid hco
   have HBl:=Lib.hid hbl
   clear hx hcl hlen hco hbl hout
   go_wp2_with fail
   go_hide hQ
   go_loopw [5,6,7] (fun v5 v6 v7 wi=>SetVidIn wo x out v5 v6 v7 wi) (fun _ _ v7 _=>out.length - (intOf v7).toNat)
   case atStart=>exact⟨0,[],false,by omega,rfl,rfl,by simp,gown_nil _ _,restS_startV _ _ _,Below.refl _ _⟩
   case round =>
    obtain⟨k,M,t,hk,rfl,rfl,hM,HM,HR,hbi⟩:=hrel
    have htn:=Bool.toNat_le t
    have hN:M.length+1≤1099511627776:=by omega
    by_cases hk2:k<out.length
    ·
     obtain⟨bo,oo,rfl,so,hcw⟩:=HCo.out.resolve_left (by omega)
     obtain⟨y,hy⟩:=gol hk2
     have HYa:Hid (∀ W,Below wo.heap.size wo W→bo<W.heap.size∧∀ j u,(encVid y)[j]? = some u→W.cell? ⟨bo,oo+k*3+j,none⟩=some u):=fun W hW=>hcw k y hy W hW
     have HR1:Hid (putS packVid x out=M++restS packVid x t (y :: out.drop (k+1))):=by show _=_;rw [← drop_at hy];exact HR.out
     have HBi:=Lib.hid hbi
     clear hy hcw hbi HR
     cases t with
     | true =>
      have hM1:M.length≤k+1:=hM
      have HN:Hid (putS packVid x out=(M++[y])++restS packVid x true (out.drop (k+1))):=by show _=_;rw [HR1.out,restS_t,restS_t];simp
      have HXw:=Lib.hid (HXa.out wr (HBi.out))
      have HYw:=Lib.hid (HYa.out wr (HBi.out))
      have x0:wr.cell? ⟨bl,ol+i*3,none⟩=some (.int .u8 x.pid.author.toNat):=(HXw.out).2 0 _ rfl
      have x1:wr.cell? ⟨bl,ol+i*3+1,none⟩=some (.int .u16 x.pid.seq.toNat):=(HXw.out).2 1 _ rfl
      have x2:wr.cell? ⟨bl,ol+i*3+2,none⟩=some (.int .u8 x.n.toNat):=(HXw.out).2 2 _ rfl
      have y0:wr.cell? ⟨bo,oo+k*3,none⟩=some (.int .u8 y.pid.author.toNat):=(HYw.out).2 0 _ rfl
      have y1:wr.cell? ⟨bo,oo+k*3+1,none⟩=some (.int .u16 y.pid.seq.toNat):=(HYw.out).2 1 _ rfl
      have y2:wr.cell? ⟨bo,oo+k*3+2,none⟩=some (.int .u8 y.n.toNat):=(HYw.out).2 2 _ rfl
      have sX:=HXw.out.1
      have sY:=HYw.out.1
      have hB:=HBi.out.size
      go_wp2_with fail
      have hcur:Below wr.heap.size wr wr.drew:=(Below.refl _ _).drew
      refine wlex (C:=IsOver wr) 14 [] (by kernel_rfl) (by kernel_rfl) (iov hcur) ?_
      simp only [List.take_succ_cons,List.take_zero,List.drop_succ_cons,List.drop_zero]
      repeat(first|(refine lxs rfl rfl ?_;simp only [Act.put,List.setIfInBounds_toArray,List.set_cons_succ,List.set_cons_zero])|(refine lxo rfl ?_;go_big_quiet_step (fail);refine wpQuiet_nil ?_))
      refine lxe ?_
      clear hcur
      go_wp2_with fail
      have hcur:Below wr.heap.size wr wr.drew.drew:=(Below.refl _ _).drew.drew
      refine wlex (C:=IsOver wr) 14 [] (by kernel_rfl) (by kernel_rfl) (iov (by repeat(first|exact Below.refl _ _|apply Below.drew|apply below_drewN|(refine Below.alloc ?_ (by simp) _)))) ?_
      simp only [List.take_succ_cons,List.take_zero,List.drop_succ_cons,List.drop_zero]
      repeat(first|(refine lxs rfl rfl ?_;simp only [Act.put,List.setIfInBounds_toArray,List.set_cons_succ,List.set_cons_zero])|(refine lxo rfl ?_;go_big_quiet_step (fail);refine wpQuiet_nil ?_))
      refine lxe ?_
      clear hcur
      go_wp2_with (at_builtin;(first|refine apD slVid rfl _ _ rfl wo.heap.size _ _ (dad _ _ _) 1 _ _ _ HM.out rfl rfl rfl rfl hN (by decide) hB ?_|refine apD slVid rfl _ _ rfl wo.heap.size _ _ (ddw _) 1 _ _ _ HM.out rfl rfl rfl rfl hN (by decide) hB ?_|refine apD slVid rfl _ _ rfl wo.heap.size _ _ (drf _) 1 _ _ _ HM.out rfl rfl rfl rfl hN (by decide) hB ?_);intro v2 w2 ho2 hg2)
      go_roundw
      case rel=>exact⟨k+1,M++[y],true,hk2,by go_num,rfl,by simp;omega,GOwn.snoc ho2,HN,bgr HBi.out HBi.out.size HM.out hg2⟩
      case measure=>simp [intOf];omega
     | false =>
      have hM0:M.length≤k:=hM
      by_cases hlt2:packVid x<packVid y
      ·
       have HK:Hid (cmpVid x y = -1):=cmpVid_lt hlt2
       have HN:Hid (putS packVid x out=(M++[x]++[y])++restS packVid x true (out.drop (k+1))):=by show _=_;rw [HR1.out,restS_f,restS_t,putS_lt hlt2];simp
       have hN2:(M++[x]).length+1≤1099511627776:=by simp;omega
       clear hlt2
       have HXw:=Lib.hid (HXa.out wr (HBi.out))
       have HYw:=Lib.hid (HYa.out wr (HBi.out))
       have x0:wr.cell? ⟨bl,ol+i*3,none⟩=some (.int .u8 x.pid.author.toNat):=(HXw.out).2 0 _ rfl
       have x1:wr.cell? ⟨bl,ol+i*3+1,none⟩=some (.int .u16 x.pid.seq.toNat):=(HXw.out).2 1 _ rfl
       have x2:wr.cell? ⟨bl,ol+i*3+2,none⟩=some (.int .u8 x.n.toNat):=(HXw.out).2 2 _ rfl
       have y0:wr.cell? ⟨bo,oo+k*3,none⟩=some (.int .u8 y.pid.author.toNat):=(HYw.out).2 0 _ rfl
       have y1:wr.cell? ⟨bo,oo+k*3+1,none⟩=some (.int .u16 y.pid.seq.toNat):=(HYw.out).2 1 _ rfl
       have y2:wr.cell? ⟨bo,oo+k*3+2,none⟩=some (.int .u8 y.n.toNat):=(HYw.out).2 2 _ rfl
       have sX:=HXw.out.1
       have sY:=HYw.out.1
       go_wp2_with fail
       have hcur:Below wr.heap.size wr wr.drew:=(Below.refl _ _).drew
       refine wlex (C:=IsOver wr) 14 [] (by kernel_rfl) (by kernel_rfl) (iov hcur) ?_
       simp only [List.take_succ_cons,List.take_zero,List.drop_succ_cons,List.drop_zero]
       repeat(first|(refine lxs rfl rfl ?_;simp only [Act.put,List.setIfInBounds_toArray,List.set_cons_succ,List.set_cons_zero])|(refine lxo rfl ?_;go_big_quiet_step (fail);refine wpQuiet_nil ?_)|(refine lxl rfl ?_;go_wp2_with (first|(go_at_call 170;(with_reducible refine(rcmpVid_any _ _ _).mono ?_);rintro e w5 ⟨rfl,hb⟩;rw [HK.out];replace hcur:=bov hcur hcur.size hb;clear hb));refine⟨iov hcur,?_⟩))
       refine lxe ?_
       have HB5:=Lib.hid (bov HBi.out HBi.out.size hcur)
       have HM5:=Lib.hid (HM.out.over hcur)
       have hB5:=HB5.out.size
       clear hcur x0 y0 x1 y1 x2 y2 sX sY
       have HXw:=Lib.hid (HXa.out w5 (HB5.out))
       have HYw:=Lib.hid (HYa.out w5 (HB5.out))
       have x0:w5.cell? ⟨bl,ol+i*3,none⟩=some (.int .u8 x.pid.author.toNat):=(HXw.out).2 0 _ rfl
       have x1:w5.cell? ⟨bl,ol+i*3+1,none⟩=some (.int .u16 x.pid.seq.toNat):=(HXw.out).2 1 _ rfl
       have x2:w5.cell? ⟨bl,ol+i*3+2,none⟩=some (.int .u8 x.n.toNat):=(HXw.out).2 2 _ rfl
       have y0:w5.cell? ⟨bo,oo+k*3,none⟩=some (.int .u8 y.pid.author.toNat):=(HYw.out).2 0 _ rfl
       have y1:w5.cell? ⟨bo,oo+k*3+1,none⟩=some (.int .u16 y.pid.seq.toNat):=(HYw.out).2 1 _ rfl
       have y2:w5.cell? ⟨bo,oo+k*3+2,none⟩=some (.int .u8 y.n.toNat):=(HYw.out).2 2 _ rfl
       have sX:=HXw.out.1
       have sY:=HYw.out.1
       go_wp2_with (at_builtin;(first|refine apD slVid rfl _ _ rfl wo.heap.size _ _ (dad _ _ _) 1 _ _ _ HM5.out rfl rfl rfl rfl hN (by decide) hB5 ?_|refine apD slVid rfl _ _ rfl wo.heap.size _ _ (ddw _) 1 _ _ _ HM5.out rfl rfl rfl rfl hN (by decide) hB5 ?_|refine apD slVid rfl _ _ rfl wo.heap.size _ _ (drf _) 1 _ _ _ HM5.out rfl rfl rfl rfl hN (by decide) hB5 ?_);intro v2 w2 ho2 hg2)
       have HB2:=Lib.hid (bgr HB5.out hB5 HM5.out hg2)
       have HM2:Hid (GOwn encVid 3 40 w2 wo.heap.size v2 (M++[x])):=GOwn.snoc ho2
       have hB2:=HB2.out.size
       clear hg2 ho2 x0 y0 x1 y1 x2 y2 sX sY
       have HXw:=Lib.hid (HXa.out w2 (HB2.out))
       have HYw:=Lib.hid (HYa.out w2 (HB2.out))
       have x0:w2.cell? ⟨bl,ol+i*3,none⟩=some (.int .u8 x.pid.author.toNat):=(HXw.out).2 0 _ rfl
       have x1:w2.cell? ⟨bl,ol+i*3+1,none⟩=some (.int .u16 x.pid.seq.toNat):=(HXw.out).2 1 _ rfl
       have x2:w2.cell? ⟨bl,ol+i*3+2,none⟩=some (.int .u8 x.n.toNat):=(HXw.out).2 2 _ rfl
       have y0:w2.cell? ⟨bo,oo+k*3,none⟩=some (.int .u8 y.pid.author.toNat):=(HYw.out).2 0 _ rfl
       have y1:w2.cell? ⟨bo,oo+k*3+1,none⟩=some (.int .u16 y.pid.seq.toNat):=(HYw.out).2 1 _ rfl
       have y2:w2.cell? ⟨bo,oo+k*3+2,none⟩=some (.int .u8 y.n.toNat):=(HYw.out).2 2 _ rfl
       have sX:=HXw.out.1
       have sY:=HYw.out.1
       go_wp2_with fail
       have hcur:Below w2.heap.size w2 w2.drew:=(Below.refl _ _).drew
       refine wlex (C:=IsOver w2) 14 [] (by kernel_rfl) (by kernel_rfl) (iov hcur) ?_
       simp only [List.take_succ_cons,List.take_zero,List.drop_succ_cons,List.drop_zero]
       repeat(first|(refine lxs rfl rfl ?_;simp only [Act.put,List.setIfInBounds_toArray,List.set_cons_succ,List.set_cons_zero])|(refine lxo rfl ?_;go_big_quiet_step (fail);refine wpQuiet_nil ?_))
       refine lxe ?_
       clear hcur
       go_wp2_with (at_builtin;(first|refine apD slVid rfl _ _ rfl wo.heap.size _ _ (dad _ _ _) 1 _ _ _ HM2.out rfl rfl rfl rfl hN2 (by decide) hB2 ?_|refine apD slVid rfl _ _ rfl wo.heap.size _ _ (ddw _) 1 _ _ _ HM2.out rfl rfl rfl rfl hN2 (by decide) hB2 ?_|refine apD slVid rfl _ _ rfl wo.heap.size _ _ (drf _) 1 _ _ _ HM2.out rfl rfl rfl rfl hN2 (by decide) hB2 ?_);intro v3 w3 ho3 hg3)
       go_roundw
       case rel=>exact⟨k+1,M++[x]++[y],true,hk2,by go_num,rfl,by simp;omega,GOwn.snoc ho3,HN,bgr HB2.out HB2.out.size HM2.out hg3⟩
       case measure=>simp [intOf];omega
      ·
       by_cases heq:packVid x=packVid y
       ·
        have HK:Hid (cmpVid x y=0):=cmpVid_eq heq
        have HN:Hid (putS packVid x out=(M++[y])++restS packVid x true (out.drop (k+1))):=by show _=_;rw [HR1.out,restS_f,putS_eq heq,restS_t];simp
        clear hlt2 heq
        have HXw:=Lib.hid (HXa.out wr (HBi.out))
        have HYw:=Lib.hid (HYa.out wr (HBi.out))
        have x0:wr.cell? ⟨bl,ol+i*3,none⟩=some (.int .u8 x.pid.author.toNat):=(HXw.out).2 0 _ rfl
        have x1:wr.cell? ⟨bl,ol+i*3+1,none⟩=some (.int .u16 x.pid.seq.toNat):=(HXw.out).2 1 _ rfl
        have x2:wr.cell? ⟨bl,ol+i*3+2,none⟩=some (.int .u8 x.n.toNat):=(HXw.out).2 2 _ rfl
        have y0:wr.cell? ⟨bo,oo+k*3,none⟩=some (.int .u8 y.pid.author.toNat):=(HYw.out).2 0 _ rfl
        have y1:wr.cell? ⟨bo,oo+k*3+1,none⟩=some (.int .u16 y.pid.seq.toNat):=(HYw.out).2 1 _ rfl
        have y2:wr.cell? ⟨bo,oo+k*3+2,none⟩=some (.int .u8 y.n.toNat):=(HYw.out).2 2 _ rfl
        have sX:=HXw.out.1
        have sY:=HYw.out.1
        go_wp2_with fail
        have hcur:Below wr.heap.size wr wr.drew:=(Below.refl _ _).drew
        refine wlex (C:=IsOver wr) 14 [] (by kernel_rfl) (by kernel_rfl) (iov hcur) ?_
        simp only [List.take_succ_cons,List.take_zero,List.drop_succ_cons,List.drop_zero]
        repeat(first|(refine lxs rfl rfl ?_;simp only [Act.put,List.setIfInBounds_toArray,List.set_cons_succ,List.set_cons_zero])|(refine lxo rfl ?_;go_big_quiet_step (fail);refine wpQuiet_nil ?_)|(refine lxl rfl ?_;go_wp2_with (first|(go_at_call 170;(with_reducible refine(rcmpVid_any _ _ _).mono ?_);rintro e w5 ⟨rfl,hb⟩;rw [HK.out];replace hcur:=bov hcur hcur.size hb;clear hb));refine⟨iov hcur,?_⟩))
        refine lxe ?_
        have HB5:=Lib.hid (bov HBi.out HBi.out.size hcur)
        have HM5:=Lib.hid (HM.out.over hcur)
        clear hcur x0 y0 x1 y1 x2 y2 sX sY
        have HXw:=Lib.hid (HXa.out w5 (HB5.out))
        have HYw:=Lib.hid (HYa.out w5 (HB5.out))
        have x0:w5.cell? ⟨bl,ol+i*3,none⟩=some (.int .u8 x.pid.author.toNat):=(HXw.out).2 0 _ rfl
        have x1:w5.cell? ⟨bl,ol+i*3+1,none⟩=some (.int .u16 x.pid.seq.toNat):=(HXw.out).2 1 _ rfl
        have x2:w5.cell? ⟨bl,ol+i*3+2,none⟩=some (.int .u8 x.n.toNat):=(HXw.out).2 2 _ rfl
        have y0:w5.cell? ⟨bo,oo+k*3,none⟩=some (.int .u8 y.pid.author.toNat):=(HYw.out).2 0 _ rfl
        have y1:w5.cell? ⟨bo,oo+k*3+1,none⟩=some (.int .u16 y.pid.seq.toNat):=(HYw.out).2 1 _ rfl
        have y2:w5.cell? ⟨bo,oo+k*3+2,none⟩=some (.int .u8 y.n.toNat):=(HYw.out).2 2 _ rfl
        have sX:=HXw.out.1
        have sY:=HYw.out.1
        go_wp2_with fail
        have hcur:Below w5.heap.size w5 w5.drew:=(Below.refl _ _).drew
        refine wlex (C:=IsOver w5) 14 [] (by kernel_rfl) (by kernel_rfl) (iov hcur) ?_
        simp only [List.take_succ_cons,List.take_zero,List.drop_succ_cons,List.drop_zero]
        repeat(first|(refine lxs rfl rfl ?_;simp only [Act.put,List.setIfInBounds_toArray,List.set_cons_succ,List.set_cons_zero])|(refine lxo rfl ?_;go_big_quiet_step (fail);refine wpQuiet_nil ?_)|(refine lxl rfl ?_;go_wp2_with (first|(go_at_call 170;(with_reducible refine(rcmpVid_any _ _ _).mono ?_);rintro e w6 ⟨rfl,hb⟩;rw [HK.out];replace hcur:=bov hcur hcur.size hb;clear hb));refine⟨iov hcur,?_⟩))
        refine lxe ?_
        have HB6:=Lib.hid (bov HB5.out HB5.out.size hcur)
        have HM6:=Lib.hid (HM5.out.over hcur)
        have hB6:=HB6.out.size
        clear hcur x0 y0 x1 y1 x2 y2 sX sY
        have HXw:=Lib.hid (HXa.out w6 (HB6.out))
        have HYw:=Lib.hid (HYa.out w6 (HB6.out))
        have x0:w6.cell? ⟨bl,ol+i*3,none⟩=some (.int .u8 x.pid.author.toNat):=(HXw.out).2 0 _ rfl
        have x1:w6.cell? ⟨bl,ol+i*3+1,none⟩=some (.int .u16 x.pid.seq.toNat):=(HXw.out).2 1 _ rfl
        have x2:w6.cell? ⟨bl,ol+i*3+2,none⟩=some (.int .u8 x.n.toNat):=(HXw.out).2 2 _ rfl
        have y0:w6.cell? ⟨bo,oo+k*3,none⟩=some (.int .u8 y.pid.author.toNat):=(HYw.out).2 0 _ rfl
        have y1:w6.cell? ⟨bo,oo+k*3+1,none⟩=some (.int .u16 y.pid.seq.toNat):=(HYw.out).2 1 _ rfl
        have y2:w6.cell? ⟨bo,oo+k*3+2,none⟩=some (.int .u8 y.n.toNat):=(HYw.out).2 2 _ rfl
        have sX:=HXw.out.1
        have sY:=HYw.out.1
        go_wp2_with (at_builtin;(first|refine apD slVid rfl _ _ rfl wo.heap.size _ _ (dad _ _ _) 1 _ _ _ HM6.out rfl rfl rfl rfl hN (by decide) hB6 ?_|refine apD slVid rfl _ _ rfl wo.heap.size _ _ (ddw _) 1 _ _ _ HM6.out rfl rfl rfl rfl hN (by decide) hB6 ?_|refine apD slVid rfl _ _ rfl wo.heap.size _ _ (drf _) 1 _ _ _ HM6.out rfl rfl rfl rfl hN (by decide) hB6 ?_);intro v2 w2 ho2 hg2)
        go_roundw
        case rel=>exact⟨k+1,M++[y],true,hk2,by go_num,rfl,by simp;omega,GOwn.snoc ho2,HN,bgr HB6.out HB6.out.size HM6.out hg2⟩
        case measure=>simp [intOf];omega
       ·
        have hgt:packVid y<packVid x:=by omega
        clear heq
        have HK:Hid (cmpVid x y=1):=cmpVid_gt hgt
        have HN:Hid (putS packVid x out=(M++[y])++restS packVid x false (out.drop (k+1))):=by show _=_;rw [HR1.out,restS_f,putS_gt hgt,restS_f];simp
        clear hlt2 hgt
        have HXw:=Lib.hid (HXa.out wr (HBi.out))
        have HYw:=Lib.hid (HYa.out wr (HBi.out))
        have x0:wr.cell? ⟨bl,ol+i*3,none⟩=some (.int .u8 x.pid.author.toNat):=(HXw.out).2 0 _ rfl
        have x1:wr.cell? ⟨bl,ol+i*3+1,none⟩=some (.int .u16 x.pid.seq.toNat):=(HXw.out).2 1 _ rfl
        have x2:wr.cell? ⟨bl,ol+i*3+2,none⟩=some (.int .u8 x.n.toNat):=(HXw.out).2 2 _ rfl
        have y0:wr.cell? ⟨bo,oo+k*3,none⟩=some (.int .u8 y.pid.author.toNat):=(HYw.out).2 0 _ rfl
        have y1:wr.cell? ⟨bo,oo+k*3+1,none⟩=some (.int .u16 y.pid.seq.toNat):=(HYw.out).2 1 _ rfl
        have y2:wr.cell? ⟨bo,oo+k*3+2,none⟩=some (.int .u8 y.n.toNat):=(HYw.out).2 2 _ rfl
        have sX:=HXw.out.1
        have sY:=HYw.out.1
        go_wp2_with fail
        have hcur:Below wr.heap.size wr wr.drew:=(Below.refl _ _).drew
        refine wlex (C:=IsOver wr) 14 [] (by kernel_rfl) (by kernel_rfl) (iov hcur) ?_
        simp only [List.take_succ_cons,List.take_zero,List.drop_succ_cons,List.drop_zero]
        repeat(first|(refine lxs rfl rfl ?_;simp only [Act.put,List.setIfInBounds_toArray,List.set_cons_succ,List.set_cons_zero])|(refine lxo rfl ?_;go_big_quiet_step (fail);refine wpQuiet_nil ?_)|(refine lxl rfl ?_;go_wp2_with (first|(go_at_call 170;(with_reducible refine(rcmpVid_any _ _ _).mono ?_);rintro e w5 ⟨rfl,hb⟩;rw [HK.out];replace hcur:=bov hcur hcur.size hb;clear hb));refine⟨iov hcur,?_⟩))
        refine lxe ?_
        have HB5:=Lib.hid (bov HBi.out HBi.out.size hcur)
        have HM5:=Lib.hid (HM.out.over hcur)
        clear hcur x0 y0 x1 y1 x2 y2 sX sY
        have HXw:=Lib.hid (HXa.out w5 (HB5.out))
        have HYw:=Lib.hid (HYa.out w5 (HB5.out))
        have x0:w5.cell? ⟨bl,ol+i*3,none⟩=some (.int .u8 x.pid.author.toNat):=(HXw.out).2 0 _ rfl
        have x1:w5.cell? ⟨bl,ol+i*3+1,none⟩=some (.int .u16 x.pid.seq.toNat):=(HXw.out).2 1 _ rfl
        have x2:w5.cell? ⟨bl,ol+i*3+2,none⟩=some (.int .u8 x.n.toNat):=(HXw.out).2 2 _ rfl
        have y0:w5.cell? ⟨bo,oo+k*3,none⟩=some (.int .u8 y.pid.author.toNat):=(HYw.out).2 0 _ rfl
        have y1:w5.cell? ⟨bo,oo+k*3+1,none⟩=some (.int .u16 y.pid.seq.toNat):=(HYw.out).2 1 _ rfl
        have y2:w5.cell? ⟨bo,oo+k*3+2,none⟩=some (.int .u8 y.n.toNat):=(HYw.out).2 2 _ rfl
        have sX:=HXw.out.1
        have sY:=HYw.out.1
        go_wp2_with fail
        have hcur:Below w5.heap.size w5 w5.drew:=(Below.refl _ _).drew
        refine wlex (C:=IsOver w5) 14 [] (by kernel_rfl) (by kernel_rfl) (iov hcur) ?_
        simp only [List.take_succ_cons,List.take_zero,List.drop_succ_cons,List.drop_zero]
        repeat(first|(refine lxs rfl rfl ?_;simp only [Act.put,List.setIfInBounds_toArray,List.set_cons_succ,List.set_cons_zero])|(refine lxo rfl ?_;go_big_quiet_step (fail);refine wpQuiet_nil ?_)|(refine lxl rfl ?_;go_wp2_with (first|(go_at_call 170;(with_reducible refine(rcmpVid_any _ _ _).mono ?_);rintro e w6 ⟨rfl,hb⟩;rw [HK.out];replace hcur:=bov hcur hcur.size hb;clear hb));refine⟨iov hcur,?_⟩))
        refine lxe ?_
        have HB6:=Lib.hid (bov HB5.out HB5.out.size hcur)
        have HM6:=Lib.hid (HM5.out.over hcur)
        have hB6:=HB6.out.size
        clear hcur x0 y0 x1 y1 x2 y2 sX sY
        have HXw:=Lib.hid (HXa.out w6 (HB6.out))
        have HYw:=Lib.hid (HYa.out w6 (HB6.out))
        have x0:w6.cell? ⟨bl,ol+i*3,none⟩=some (.int .u8 x.pid.author.toNat):=(HXw.out).2 0 _ rfl
        have x1:w6.cell? ⟨bl,ol+i*3+1,none⟩=some (.int .u16 x.pid.seq.toNat):=(HXw.out).2 1 _ rfl
        have x2:w6.cell? ⟨bl,ol+i*3+2,none⟩=some (.int .u8 x.n.toNat):=(HXw.out).2 2 _ rfl
        have y0:w6.cell? ⟨bo,oo+k*3,none⟩=some (.int .u8 y.pid.author.toNat):=(HYw.out).2 0 _ rfl
        have y1:w6.cell? ⟨bo,oo+k*3+1,none⟩=some (.int .u16 y.pid.seq.toNat):=(HYw.out).2 1 _ rfl
        have y2:w6.cell? ⟨bo,oo+k*3+2,none⟩=some (.int .u8 y.n.toNat):=(HYw.out).2 2 _ rfl
        have sX:=HXw.out.1
        have sY:=HYw.out.1
        go_wp2_with (at_builtin;(first|refine apD slVid rfl _ _ rfl wo.heap.size _ _ (dad _ _ _) 1 _ _ _ HM6.out rfl rfl rfl rfl hN (by decide) hB6 ?_|refine apD slVid rfl _ _ rfl wo.heap.size _ _ (ddw _) 1 _ _ _ HM6.out rfl rfl rfl rfl hN (by decide) hB6 ?_|refine apD slVid rfl _ _ rfl wo.heap.size _ _ (drf _) 1 _ _ _ HM6.out rfl rfl rfl rfl hN (by decide) hB6 ?_);intro v2 w2 ho2 hg2)
        go_roundw
        case rel=>exact⟨k+1,M++[y],false,hk2,by go_num,rfl,by simp;omega,GOwn.snoc ho2,HN,bgr HB6.out HB6.out.size HM6.out hg2⟩
        case measure=>simp [intOf];omega
    ·
     have hke:k=out.length:=by omega
     subst hke
     rw [List.drop_length] at HR
     have HBi:=Lib.hid hbi
     have hbw:=bov HBl.out HBl.out.size hbi
     cases t with
     | true =>
      have HE:Hid (putS packVid x out=M):=by show _=_;rw [HR.out,restS_t];simp
      go_wp2_with fail
      subst hQ
      go_wp2_with fail
      go_roundw
      case rel=>exact⟨i+1,hlt,by go_num,(by show GRow _ _ _ _ _;rw [HF.out,HE.out];exact HM.out.row),hbw⟩
      case measure=>simp [intOf];omega
     | false =>
      have HE:Hid (putS packVid x out=M++[x]):=by show _=_;rw [HR.out,restS_f,putS_nil]
      have HXw:=Lib.hid (HXa.out wr HBi.out)
      have x0:wr.cell? ⟨bl,ol+i*3,none⟩=some (.int .u8 x.pid.author.toNat):=(HXw.out).2 0 _ rfl
      have x1:wr.cell? ⟨bl,ol+i*3+1,none⟩=some (.int .u16 x.pid.seq.toNat):=(HXw.out).2 1 _ rfl
      have x2:wr.cell? ⟨bl,ol+i*3+2,none⟩=some (.int .u8 x.n.toNat):=(HXw.out).2 2 _ rfl
      have sX:=HXw.out.1
      have hB:=HBi.out.size
      go_wp2_with fail
      subst hQ
      go_wp2_with (at_builtin;(first|refine apD slVid rfl _ _ rfl wo.heap.size _ _ (dad _ _ _) 1 _ _ _ HM.out rfl rfl rfl rfl hN (by decide) hB ?_|refine apD slVid rfl _ _ rfl wo.heap.size _ _ (ddw _) 1 _ _ _ HM.out rfl rfl rfl rfl hN (by decide) hB ?_|refine apD slVid rfl _ _ rfl wo.heap.size _ _ (drf _) 1 _ _ _ HM.out rfl rfl rfl rfl hN (by decide) hB ?_);intro v2 w2 ho2 hg2)
      go_roundw
      case rel=>exact⟨i+1,hlt,by go_num,(by show GRow _ _ _ _ _;rw [HF.out,HE.out];exact(GOwn.snoc ho2).row),bov HBl.out HBl.out.size (bgr HBi.out hB HM.out hg2)⟩
      case measure=>simp [intOf];omega
  ·
   obtain rfl:i=l.length:=by omega
   have HE:=HO.out
   rw [List.take_length] at HE
   go_wp2_with fail
   go_ret
   exact⟨_,rfl,HE,hbl⟩
end Go.Proofs.YtllcipobiengiaaGreat
namespace Go.Proofs.YtllcipobiengiaaGreat
open Go Go.RowKit

theorem take_all{α:Type}{l m:List α}(hl:l.length=m.length)(h:l.take l.length=m.take l.length):l=m:=by
 rw [List.take_length,hl,List.take_length] at h;exact h
theorem take_ne{α:Type}{l m:List α}{k:Nat}{x y:α}(hx:l[k]? = some x)(hy:m[k]? = some y)(h:¬ x=y):¬ l=m:=by
 rintro rfl
 rw [hx] at hy
 exact h (Option.some.inj hy)

set_option maxHeartbeats 4000000 in
set_option maxRecDepth 100000 in
theorem rsamePid_any(v u:Value)(l m:List PidM)(w:World)(hv:GRow encPid 2 w v l)(hu:GRow encPid 2 w u m) :
  Calls Tryz.prog 166 #[v,u] w fun e w'=>e=.returned (.bool (decide (l=m)))∧Below w.heap.size w w':=by
 obtain⟨a,cap,rfl,h1,h2,hc⟩:=hv.at encPid_len
 obtain⟨a',cap',rfl,h1',h2',hc'⟩:=hu.at encPid_len
 unfold maxLen at h2 h2'
 have HC:=Lib.hid hc
 have HC':=Lib.hid hc'
 clear hv hu hc hc'
 have gd:=fun p q xs ys w=>guard_pid .neq p q xs ys w
 by_cases hlen:l.length=m.length
 ·
  have HL:=Lib.hid hlen
  have hq:((l.length:Int) != (m.length:Int))=false:=by simp [hlen]
  clear hlen
  go_enter Tryz.func166,Tryz.ntmps166
  go_wp2_with fail
  go_loopw [5] (fun i wr=>∃ k:Nat,k≤l.length∧i=.int .i64 k∧Hid (l.take k=m.take k)∧Below w.heap.size w wr) (fun i _=>l.length - (intOf i).toNat)
  case atStart=>exact⟨0,by omega,rfl,rfl,Below.refl _ _⟩
  case round =>
   obtain⟨k,hk,rfl,HK,hbl⟩:=hrel
   by_cases hlt:k<l.length
   ·
    obtain⟨bl,ol,rfl,sl,hcl⟩:=HC.out.resolve_left (by omega)
    obtain⟨bm,om,rfl,sm,hcm⟩:=HC'.out.resolve_left (by have:=HL.out;omega)
    obtain⟨x,hx⟩:=gol hlt
    obtain⟨y,hy⟩:=gol (xs:=m) (i:=k) (by have:=HL.out;omega)
    have hkm:k<m.length:=by have:=HL.out;omega
    have x0:wr.cell? ⟨bl,ol+k*2,none⟩=some (.int .u8 x.author.toNat):=((hcl k x hx wr hbl)).2 0 _ rfl
    have x1:wr.cell? ⟨bl,ol+k*2+1,none⟩=some (.int .u16 x.seq.toNat):=((hcl k x hx wr hbl)).2 1 _ rfl
    have y0:wr.cell? ⟨bm,om+k*2,none⟩=some (.int .u8 y.author.toNat):=((hcm k y hy wr hbl)).2 0 _ rfl
    have y1:wr.cell? ⟨bm,om+k*2+1,none⟩=some (.int .u16 y.seq.toNat):=((hcm k y hy wr hbl)).2 1 _ rfl
    have sX:=(hcl k x hx wr hbl).1
    have sY:=(hcm k y hy wr hbl).1
    have HX:=Lib.hid hx
    have HY:=Lib.hid hy
    clear hcl hcm hx hy
    by_cases hxy:x=y
    ·
     have hne:=neq_pid x y false (by simp [hxy])
     unfold pidV at hne
     have HK2:Hid (l.take (k+1)=m.take (k+1)):=by show _=_;rw [tsg HX.out,tsg HY.out,HK.out,hxy]
     clear hxy
     go_wp2_with fail
     have hcur:Below wr.heap.size wr wr.drew:=(Below.refl _ _).drew
     refine wlex (C:=IsOver wr) 9 [] (by kernel_rfl) (by kernel_rfl) (iov hcur) ?_
     simp only [List.take_succ_cons,List.take_zero,List.drop_succ_cons,List.drop_zero]
     repeat(first|(refine lxs rfl rfl ?_;simp only [Act.put,List.setIfInBounds_toArray,List.set_cons_succ,List.set_cons_zero])|(refine lxo rfl ?_;go_big_quiet_step (fail);refine wpQuiet_nil ?_))
     refine lxe ?_
     go_wp2_with fail
     go_roundw
     case rel=>exact⟨k+1,hlt,by go_num,HK2,hbl.drew⟩
     case measure=>simp [intOf];omega
    ·
     have hne:=neq_pid x y true (by simp [hxy])
     unfold pidV at hne
     have HN:Hid (decide (l=m)=false):=decide_eq_false (take_ne HX.out HY.out hxy)
     clear hxy
     go_wp2_with fail
     have hcur:Below wr.heap.size wr wr.drew:=(Below.refl _ _).drew
     refine wlex (C:=IsOver wr) 9 [] (by kernel_rfl) (by kernel_rfl) (iov hcur) ?_
     simp only [List.take_succ_cons,List.take_zero,List.drop_succ_cons,List.drop_zero]
     repeat(first|(refine lxs rfl rfl ?_;simp only [Act.put,List.setIfInBounds_toArray,List.set_cons_succ,List.set_cons_zero])|(refine lxo rfl ?_;go_big_quiet_step (fail);refine wpQuiet_nil ?_))
     refine lxe ?_
     go_wp2_with fail
     go_ret
     exact⟨rvl (congrArg Value.bool HN.out.symm),hbl.drew⟩
   ·
    obtain rfl:k=l.length:=by omega
    have HN:Hid (decide (l=m)=true):=decide_eq_true (take_all HL.out HK.out)
    go_wp2_with fail
    go_ret
    exact⟨rvl (congrArg Value.bool HN.out.symm),hbl⟩
 ·
  have HN:Hid (decide (l=m)=false):=decide_eq_false (fun h=>hlen (by rw [h]))
  have hq:((l.length:Int) != (m.length:Int))=true:=by simp;omega
  clear hlen
  go_enter Tryz.func166,Tryz.ntmps166
  go_wp2_with fail
  go_ret
  exact⟨rvl (congrArg Value.bool HN.out.symm),Below.refl _ _⟩
end Go.Proofs.YtllcipobiengiaaGreat
namespace Go.Proofs.YtllcipobiengiaaGreat
open Go Go.RowKit

def farPids(id:PidM)(vs:List VidM):List PidM:=(vs.filter fun v=>v.pid≠id).map (·.pid)
theorem farPids_yes{id:PidM}{vs:List VidM}{k:Nat}{v:VidM}(h:vs[k]? = some v)(hv:¬ v.pid=id):farPids id (vs.take (k+1))=farPids id (vs.take k)++[v.pid]:=by
 unfold farPids;rw [tsg h,List.filter_append,List.map_append];simp [hv]
theorem farPids_no{id:PidM}{vs:List VidM}{k:Nat}{v:VidM}(h:vs[k]? = some v)(hv:v.pid=id):farPids id (vs.take (k+1))=farPids id (vs.take k):=by
 unfold farPids;rw [tsg h,List.filter_append,List.map_append];simp [hv]
theorem farPids_len(id:PidM)(vs:List VidM):(farPids id vs).length≤vs.length:=by
 unfold farPids;rw [List.length_map];exact List.length_filter_le _ _
def preDep(id:PidM):List PidM:=if 1<id.seq.toNat then [⟨id.author,id.seq - 1⟩] else []
def depsTo(id:PidM)(ops:List OpM):List PidM:=preDep id++ops.flatMap fun o=>farPids id (refsM o)
theorem depsTo_all(id:PidM)(ops:List OpM):setS packPid (depsTo id ops)=depsM id ops:=rfl
theorem depsTo_succ{id:PidM}{ops:List OpM}{i:Nat}{o:OpM}(h:ops[i]? = some o):depsTo id (ops.take (i+1))=depsTo id (ops.take i)++farPids id (refsM o):=by
 unfold depsTo;rw [tsg h,List.flatMap_append];simp
theorem preDep_len(id:PidM):(preDep id).length≤1:=by unfold preDep;split <;> simp
theorem far_len(id:PidM):∀ ops:List OpM,(ops.flatMap fun o=>farPids id (refsM o)).length≤2*ops.length
 | []=>by simp
 | o :: ops=>by
  have h2:=farPids_len id (refsM o)
  have h3:=refs_len o
  have h4:=far_len id ops
  rw [List.flatMap_cons,List.length_append,List.length_cons];omega
theorem depsTo_len(id:PidM):∀ ops:List OpM,(depsTo id ops).length≤1+2*ops.length:=by
 intro ops
 have h1:=preDep_len id
 have h2:=far_len id ops
 unfold depsTo
 rw [List.length_append];omega
theorem sub_seq{s:UInt16}(h:1<s.toNat):((s - 1).toNat:Int)=(s.toNat:Int) - 1:=by
 have:(s - 1).toNat=s.toNat - 1:=by
  rw [UInt16.toNat_sub_of_le]
  ·
   rfl
  ·
   rw [UInt16.le_iff_toNat_le];show 1≤_;omega
 rw [this];omega
theorem refs_at{w:World}{a:Option Addr}{n c:Nat}{vs:List VidM}(h:RefsAt w (.slice a n c) vs)(hp:0<vs.length):∃ g,a=some ⟨g,0,none⟩∧ArrT w g 40 (vs.flatMap encVid):=by
 rcases h with⟨rfl,_⟩|⟨_,_,g,e,hA⟩
 ·
  simp at hp
 ·
  cases e;exact⟨g,rfl,hA⟩
theorem RefsAt.over{w w':World}{v:Value}{vs:List VidM}(h:RefsAt w v vs)(hb:Below w.heap.size w w'):RefsAt w' v vs:=by
 rcases h with h|⟨h1,h2,g,e,hA⟩
 ·
  exact .inl h
 ·
  exact .inr ⟨h1,h2,g,e,hA.over hb⟩
theorem RefsAt.grown{w w':World}{B sz n:Nat}{e:TypeId}{v u:Value}{xs:List Value}{vs:List VidM}(h:RefsAt w v vs)(ho:w.ownsRow B e sz u n xs)(hn:e≠40)(hg:w.grownBy w' u.ownBlock):RefsAt w' v vs:=by
 rcases h with h|⟨h1,h2,g,e,hA⟩
 ·
  exact .inl h
 ·
  exact .inr ⟨h1,h2,g,e,hA.grown ho hn hg⟩
def DpOut(w0:World)(id:PidM)(ops:List OpM)(v5 v6:Value)(wr:World):Prop:=
 ∃ i:Nat,i≤ops.length∧v6=.int .i64 i∧Hid (GOwn encPid 2 26 wr w0.heap.size v5 (depsTo id (ops.take i)))∧Below w0.heap.size w0 wr
def DpIn(w0:World)(id:PidM)(A:List PidM)(vs:List VidM)(vr:Value)(v5 v8:Value)(wr:World):Prop:=
 ∃ k:Nat,k≤vs.length∧v8=.int .i64 k∧Hid (GOwn encPid 2 26 wr w0.heap.size v5 (A++farPids id (vs.take k)))∧Hid (RefsAt wr vr vs)∧Below w0.heap.size w0 wr
theorem preDep_yes{id:PidM}(h:1<id.seq.toNat):preDep id=[⟨id.author,id.seq - 1⟩]:=by unfold preDep;rw [if_pos h]
theorem preDep_no{id:PidM}(h:¬ 1<id.seq.toNat):preDep id=[]:=by unfold preDep;rw [if_neg h]
theorem depsTo_nil(id:PidM):depsTo id []=preDep id:=by unfold depsTo;simp
theorem farPids_nil(id:PidM):farPids id []=[]:=rfl
attribute [local irreducible] refsM farPids preDep depsTo depsM
set_option maxHeartbeats 10000000 in
set_option maxRecDepth 100000 in
theorem rdeps_any(id:PidM)(v:Value)(ops:List OpM)(w:World)(hv:GRow encOp 8 w v ops)(hl:ops.length≤40000) :
  Calls Tryz.prog 167 #[pidV id,v] w (SetRes encPid 2 w (depsM id ops)):=by
 have HA:=Lib.hid (anw w #[.int .u8 id.author.toNat,.int .u16 id.seq.toNat] 26)
 have HB:=Lib.hid (bnew (w:=w) (.cells #[.int .u8 id.author.toNat,.int .u16 id.seq.toNat] 26))
 obtain⟨a,cap,rfl,h1,h2,hc⟩:=(hv.over HB.out).at encOp_len
 unfold maxLen at h2
 have HC:=Lib.hid hc
 have hdl:=depsTo_len id ops
 have hpl:=preDep_len id
 have hsl:=id.seq.toNat_lt
 have hal:=id.author.toNat_lt
 have gd:=fun p q xs ys w=>guard_pid .neq p q xs ys w
 clear hv hc
 unfold pidV
 go_enter Tryz.func167,Tryz.ntmps167
 go_upto_if 11 with(fail)
 generalize hw0:w.alloc (.cells #[.int .u8 id.author.toNat,.int .u16 id.seq.toNat] 26)=w0 at *
 clear hw0
 go_cut [5] (fun s5 wx=>Hid (GOwn encPid 2 26 wx w0.heap.size s5 (preDep id))∧Below w0.heap.size w0 wx)
 case first =>
  by_cases g1:1<id.seq.toNat
  ·
   have d1:decide ((1:Int)<(id.seq.toNat:Int))=true:=by simp;omega
   have HP:Hid (preDep id=[⟨id.author,id.seq - 1⟩]):=preDep_yes g1
   have HS:=Lib.hid (sub_seq g1)
   have i0:=HA.out.cell (j:=0) rfl
   have i1:=HA.out.cell (j:=1) rfl
   have si:=HA.out.lt
   have hN:0+1≤1099511627776:=by decide
   have hB0:w0.heap.size≤w0.heap.size:=Nat.le_refl _
   go_wp2_with (at_builtin;(first|refine apD slPid rfl _ _ rfl w0.heap.size _ _ (dad _ _ _) 1 _ _ _ (World.ownsRow_nil w0 w0.heap.size 26 2) rfl rfl rfl rfl hN (by decide) hB0 ?_|refine apD slPid rfl _ _ rfl w0.heap.size _ _ (drf _) 1 _ _ _ (World.ownsRow_nil w0 w0.heap.size 26 2) rfl rfl rfl rfl hN (by decide) hB0 ?_);intro v2 w2 ho2 hg2)
   go_meet
   refine⟨?_,grown_over' hg2 (fun g hg=>by simp [Value.ownBlock] at hg)⟩
   show GOwn _ _ _ _ _ _ _
   rw [HP.out]
   exact GOwn.snoc (enc:=encPid) (xs:=[]) (x:=(⟨id.author,id.seq - 1⟩:PidM)) (by unfold encPid;rw [HS.out];exact ho2)
  ·
   have d1:decide ((1:Int)<(id.seq.toNat:Int))=false:=by simp;omega
   have HP:Hid (preDep id=[]):=preDep_no g1
   go_wp2_with fail
   go_meet
   exact⟨(by show GOwn _ _ _ _ _ _ _;rw [HP.out];exact gown_nil _ _),Below.refl _ _⟩
 case rest =>
  obtain⟨HO,hbc⟩:=hcut
  go_wp2_with fail
  go_loopw [5,6] (fun v5 v6 wr=>DpOut w0 id ops v5 v6 wr) (fun _ v6 _=>ops.length - (intOf v6).toNat)
  case atStart=>exact⟨0,by omega,rfl,(by show GOwn _ _ _ _ _ _ _;rw [List.take_zero,depsTo_nil];exact HO.out),hbc⟩
  case round =>
   rename World=>wo
   obtain⟨i,hi,rfl,HM,hbl⟩:=hrel
   by_cases hlt:i<ops.length
   ·
    obtain⟨b,off,rfl,sb,hcb⟩:=HC.out.resolve_left (by omega)
    obtain⟨o,ho⟩:=gol hlt
    have HOp:=Lib.hid (hcb i o ho wo hbl)
    have HSu:=Lib.hid (depsTo_succ (id:=id) ho)
    have hdt:=depsTo_len id (ops.take i)
    rw [List.length_take] at hdt
    have o0:wo.cell? ⟨b,off+i*8,none⟩=some (.int .u8 o.kind.toNat):=(HOp.out).2 0 _ rfl
    have o1:wo.cell? ⟨b,off+i*8+1,none⟩=some (.int .u8 o.at'.pid.author.toNat):=(HOp.out).2 1 _ rfl
    have o2:wo.cell? ⟨b,off+i*8+2,none⟩=some (.int .u16 o.at'.pid.seq.toNat):=(HOp.out).2 2 _ rfl
    have o3:wo.cell? ⟨b,off+i*8+3,none⟩=some (.int .u8 o.at'.n.toNat):=(HOp.out).2 3 _ rfl
    have o4:wo.cell? ⟨b,off+i*8+4,none⟩=some (.int .u8 o.to.pid.author.toNat):=(HOp.out).2 4 _ rfl
    have o5:wo.cell? ⟨b,off+i*8+5,none⟩=some (.int .u16 o.to.pid.seq.toNat):=(HOp.out).2 5 _ rfl
    have o6:wo.cell? ⟨b,off+i*8+6,none⟩=some (.int .u8 o.to.n.toNat):=(HOp.out).2 6 _ rfl
    have o7:wo.cell? ⟨b,off+i*8+7,none⟩=some (.string o.text):=(HOp.out).2 7 _ rfl
    have so:=HOp.out.1
    clear hcb ho
    go_wp2_with fail
    refine(rrefs_any o _).mono ?_
    rintro e w1 ⟨vr,rfl,hvr,hb1⟩
    obtain⟨a2,cap2,e2,q1,q2,_⟩:=(RefsAt.vrow hvr).form
    subst e2
    unfold maxLen at q2
    have HVr:=Lib.hid hvr
    have HB1:=Lib.hid (bov hbl hbl.size hb1)
    have HM1:=Lib.hid (HM.out.over hb1)
    have hrl:=refs_len o
    clear hvr hb1 o0 o1 o2 o3 o4 o5 o6 o7 so
    go_wp2_with fail
    go_hide hQ
    go_loopw [5,8] (fun v5 v8 wi=>DpIn w0 id (depsTo id (ops.take i)) (refsM o) (.slice a2 (refsM o).length cap2) v5 v8 wi) (fun _ v8 _=>(refsM o).length - (intOf v8).toNat)
    case atStart=>exact⟨0,by omega,rfl,(by show GOwn _ _ _ _ _ _ _;rw [List.take_zero,farPids_nil,List.append_nil];exact HM1.out),HVr,HB1.out⟩
    case round =>
     rename World=>wr
     obtain⟨k,hk,rfl,HM2,HR2,hbi⟩:=hrel
     have hfl:=farPids_len id ((refsM o).take k)
     rw [List.length_take] at hfl
     have hN:(depsTo id (ops.take i)++farPids id ((refsM o).take k)).length+1≤1099511627776:=by rw [List.length_append];omega
     by_cases hk2:k<(refsM o).length
     ·
      obtain⟨g,rfl,hAr⟩:=refs_at HR2.out (by omega)
      obtain⟨u,hu⟩:=gol hk2
      have HU:=Lib.hid hu
      have HAv:=Lib.hid hAr
      have HAi:=Lib.hid (HA.out.over hbi)
      have i0:=HAi.out.cell (j:=0) rfl
      have i1:=HAi.out.cell (j:=1) rfl
      have si:=HAi.out.lt
      have u0:wr.cell? ⟨g,k*3,none⟩=some (.int .u8 u.pid.author.toNat):=hAr.arr.cell ((flat_get encVid_len _ k 0 u hu (by decide)).trans rfl)
      have u1:wr.cell? ⟨g,k*3+1,none⟩=some (.int .u16 u.pid.seq.toNat):=hAr.arr.cell ((flat_get encVid_len _ k 1 u hu (by decide)).trans rfl)
      have u2:wr.cell? ⟨g,k*3+2,none⟩=some (.int .u8 u.n.toNat):=hAr.arr.cell ((flat_get encVid_len _ k 2 u hu (by decide)).trans rfl)
      have su:=hAr.arr.lt
      have hB2:=hbi.size
      clear hu hAr
      by_cases hp:u.pid=id
      ·
       have e1:=neq_pid u.pid id false (by simp [hp])
       unfold pidV at e1
       have HN:=Lib.hid (farPids_no HU.out hp)
       clear hp
       go_wp2_with fail
       have hcur:Below wr.heap.size wr wr.drew:=(Below.refl _ _).drew
       refine wlex (C:=IsOver wr) 7 [] (by kernel_rfl) (by kernel_rfl) (iov hcur) ?_
       simp only [List.take_succ_cons,List.take_zero,List.drop_succ_cons,List.drop_zero]
       repeat(first|(refine lxs rfl rfl ?_;simp only [Act.put,List.setIfInBounds_toArray,List.set_cons_succ,List.set_cons_zero])|(refine lxo rfl ?_;go_big_quiet_step (fail);refine wpQuiet_nil ?_))
       refine lxe ?_
       have HM3:=Lib.hid (HM2.out.over hcur)
       have HR3:=Lib.hid (HR2.out.over hcur)
       have HB3:=Lib.hid (bov hbi hB2 hcur)
       clear hcur
       go_wp2_with fail
       go_roundw
       case rel=>exact⟨k+1,hk2,by go_num,(by show GOwn _ _ _ _ _ _ _;rw [HN.out];exact HM3.out),HR3,HB3.out⟩
       case measure=>simp [intOf];omega
      ·
       have e1:=neq_pid u.pid id true (by simp [hp])
       unfold pidV at e1
       have HN:=Lib.hid (farPids_yes HU.out hp)
       clear hp
       go_wp2_with fail
       have hcur:Below wr.heap.size wr wr.drew:=(Below.refl _ _).drew
       refine wlex (C:=IsOver wr) 7 [] (by kernel_rfl) (by kernel_rfl) (iov hcur) ?_
       simp only [List.take_succ_cons,List.take_zero,List.drop_succ_cons,List.drop_zero]
       repeat(first|(refine lxs rfl rfl ?_;simp only [Act.put,List.setIfInBounds_toArray,List.set_cons_succ,List.set_cons_zero])|(refine lxo rfl ?_;go_big_quiet_step (fail);refine wpQuiet_nil ?_))
       refine lxe ?_
       clear hcur
       go_wp2_with (at_builtin;(first|refine apD slPid rfl _ _ rfl w0.heap.size _ _ (dad _ _ _) 1 _ _ _ HM2.out rfl rfl rfl rfl hN (by decide) hB2 ?_|refine apD slPid rfl _ _ rfl w0.heap.size _ _ (drf _) 1 _ _ _ HM2.out rfl rfl rfl rfl hN (by decide) hB2 ?_);intro v2 w2 ho2 hg2)
       go_roundw
       case rel=>exact⟨k+1,hk2,by go_num,(by show GOwn _ _ _ _ _ _ _;rw [HN.out,← List.append_assoc];exact GOwn.snoc ho2),HR2.out.grown HM2.out (by decide) hg2,bgr hbi hB2 HM2.out hg2⟩
       case measure=>simp [intOf];omega
     ·
      obtain rfl:k=(refsM o).length:=by omega
      rw [List.take_length] at HM2
      go_wp2_with fail
      subst hQ
      go_wp2_with fail
      go_roundw
      case rel=>exact⟨i+1,hlt,by go_num,(by show GOwn _ _ _ _ _ _ _;rw [HSu.out];exact HM2.out),hbi⟩
      case measure=>simp [intOf];omega
   ·
    obtain rfl:i=ops.length:=by omega
    have HE:=HM.out
    rw [List.take_length] at HE
    have HE2:=Lib.hid HE.row
    clear HE
    go_wp2_with fail
    refine(rsetPid_any _ _ _ HE2.out (by omega)).mono ?_
    rintro e w2 ⟨u,rfl,hu,hb2⟩
    have HU:Hid (GRow encPid 2 w2 u (depsM id ops)):=by rw [← depsTo_all];exact hu
    clear hu
    go_wp2_with fail
    go_ret
    exact⟨_,rfl,HU.out,bov (bov HB.out HB.out.size hbl) (by have:=HB.out.size;have:=hbl.size;omega) hb2⟩
end Go.Proofs.YtllcipobiengiaaGreat
