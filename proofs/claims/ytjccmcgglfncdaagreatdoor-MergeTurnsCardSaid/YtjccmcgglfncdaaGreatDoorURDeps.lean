/- What is proved: MergeTurns, for every input; of the listed tables the walk needs the powers of ten. -/
import Derived.Test.YtjccmcgglfncdaaGreatDoorURefs
import Derived.Test.YtjccmcgglfncdaaGreatDoorUWordB
set_option linter.unusedVariables false
set_option linter.unusedSimpArgs false
set_option maxRecDepth 100000
set_option maxHeartbeats 40000000
namespace Go.Proofs.YtjccmcgglfncdaaGreatDoor
open Go Go.RowKit
section
variable{i:Nat}{o:OpM}{id:PidM}{v:VidM}
theorem eql_zero(x:VidM)(b:Bool)(h:decide (x=noVid)=b)(w:World):(binOp .eql 74 (.agg (cV x)) (.agg #[.int .u8 0,.int .u16 0,.int .u8 0])).run Tryz.prog w=.ok (.bool b) w:=eql_vid x noVid b h w
theorem VRow.form{w:World}{v:Value}{vs:List VidM}(h:VRow w v vs):∃ a cap,v=.slice a vs.length cap∧vs.length≤cap∧cap≤maxLen∧(vs.length=0∨∃ b off,a=some ⟨b,off,none⟩∧b<w.heap.size∧∀ i x,vs[i]? = some x →
  w.cell? ⟨b,off+i*3,none⟩=some (.int .u8 x.pid.author.toNat)∧w.cell? ⟨b,off+i*3+1,none⟩=some (.int .u16 x.pid.seq.toNat)∧w.cell? ⟨b,off+i*3+2,none⟩=some (.int .u8 x.n.toNat)):=by obtain⟨a,cap,e1,e2,e3,_,e5⟩:=Row.form h;refine⟨a,cap,e1,e2,e3,e5.imp id ?_⟩;rintro⟨b,off,rfl,hb,hc⟩;have hf:∀ x:VidM,(encVid x).length=3:=fun _=>rfl;exact⟨b,off,rfl,hb,fun i x hx=>⟨Row.elem (j:=0) hf hc hx rfl,Row.elem (j:=1) hf hc hx rfl,Row.elem (j:=2) hf hc hx rfl⟩⟩
theorem opGood_no{k:Nat}(hv:(refsM o)[k]? = some v)(h:refOk id i v=false):opGood id i o=false:=by
 unfold opGood;have:(refsM o).all (refOk id i)=false:=by rw [List.all_eq_false];exact⟨v,List.mem_of_getElem? hv,by simp [h]⟩
 rw [this];rfl
theorem opGood_all(h:(refsM o).all (refOk id i)=true):opGood id i o=opTail id o:=by unfold opGood;rw [h];rfl
theorem all_take{l:List VidM}{k:Nat}(hv:l[k]? = some v)(h:(l.take k).all (refOk id i)=true)(h':refOk id i v=true):(l.take (k+1)).all (refOk id i)=true:=by rw [tsg hv,List.all_append,h];simp [h']
theorem refOk_bad(h:goodVid v=false):refOk id i v=false:=by unfold refOk;rw [h];rfl
theorem refOk_far(h:goodVid v=true)(h':¬ v.pid=id):refOk id i v=true:=by unfold refOk;simp [h,h']
theorem refOk_own(h:goodVid v=true)(h':v.pid=id):refOk id i v = !decide (i≤v.n.toNat):=by unfold refOk;simp [h,h']
def OgRel(w0:World)(id:PidM)(i:Nat)(o:OpM)(v:Value)(wr:World):Prop:=∃ k:Nat,k≤(refsM o).length∧v=.int .i64 k∧Hid (((refsM o).take k).all (refOk id i)=true)∧Be w0 wr
theorem opTail_1(h:o.kind.toNat=1):opTail id o=(decide (o.at'=noVid) && (decide (o.to=noVid) && decide (o.text.size=0))):=by have e:o.kind=1:=(u8_nat _ 1 (by omega)).2 h;unfold opTail;rw [e];rfl
theorem opTail_2(h:o.kind.toNat=2):opTail id o=(decide (o.to=noVid) && nameOk o.text):=by have e:o.kind=2:=(u8_nat _ 2 (by omega)).2 h;unfold opTail;rw [e];rfl
theorem opTail_3(h:o.kind.toNat=3):opTail id o=(decide (o.to=noVid) && lineOk o.text):=by have e:o.kind=3:=(u8_nat _ 3 (by omega)).2 h;unfold opTail;rw [e];rfl
theorem opTail_4(h:o.kind.toNat=4):opTail id o=(decide (o.at'≠o.to) && decide (o.text.size=0)):=by have e:o.kind=4:=(u8_nat _ 4 (by omega)).2 h;unfold opTail;rw [e];rfl
theorem opTail_5(h:o.kind.toNat=5):opTail id o=(decide (o.at'.pid≠id) && (decide (o.to=noVid) && decide (o.text.size=0))):=by have e:o.kind=5:=(u8_nat _ 5 (by omega)).2 h;unfold opTail;rw [e];rfl
theorem opTail_6(h:¬ o.kind.toNat=1∧¬ o.kind.toNat=2∧¬ o.kind.toNat=3∧¬ o.kind.toNat=4∧¬ o.kind.toNat=5):opTail id o=false:=by obtain⟨h1,h2,h3,h4,h5⟩:=h;have n1:¬ o.kind=1:=fun e=>h1 (by rw [e];rfl);have n2:¬ o.kind=2:=fun e=>h2 (by rw [e];rfl);have n3:¬ o.kind=3:=fun e=>h3 (by rw [e];rfl);have n4:¬ o.kind=4:=fun e=>h4 (by rw [e];rfl);have n5:¬ o.kind=5:=fun e=>h5 (by rw [e];rfl);unfold opTail;rw [if_neg n1,if_neg n2,if_neg n3,if_neg n4,if_neg n5]
theorem refs_len(o:OpM):(refsM o).length≤2:=by
 unfold refsM;split
 · simp
 split <;> simp
attribute [local irreducible] refsM refOk goodVid opGood opTail
theorem pogood_any(id:PidM)(i:Nat)(o:OpM)(w:World)(hi:i<4611686018427387904)(hz:o.text.size≤maxLen) :
  Calls Tryz.prog 179 #[pidV id,.int .i64 i,opV o] w fun e w'=>e=.returned (.bool (opGood id i o))∧Be w w':=by
 have HZ:=Lh hz;have hrl:=refs_len o;have HA:=Lh ((anw w (cP id) 25).alloc (.cells (cO o) 76));have HC:=Lh (an2 w (.cells (cP id) 25) (cO o) 76);have HB:=Lh ((bnew (w:=w) (.cells (cP id) 25)).alloc (by simp) (.cells (cO o) 76));have gp:=fun p q xs ys w=>guard_pid .eql p q xs ys w;have gp2:=fun p q xs ys w=>guard_pid .neq p q xs ys w;have gv:=fun p q xs ys w=>guard_vid .eql p q xs ys w;have gv2:=fun p q xs ys w=>guard_vid .neq p q xs ys w;clear hz;unfold pidV opV;go_enter Tryz.func179,Tryz.ntmps179;go_wp2_with fail;generalize (w.alloc (.cells (cP id) 25)).alloc (.cells (cO o) 76)=w0 at *;refine(prefs_any o _).mono ?_;rintro e w1 ⟨v1,rfl,hv1,hb1⟩;obtain⟨a,cap,rfl,h1,h2,hc⟩:=(RefsAt.vrow hv1).form;unfold maxLen at h2;have HCv:=Lh hc;have HB1:=Lh hb1;clear hv1 hc hb1;go_wp2;go_loopw [13] (fun v wr=>OgRel w1 id i o v wr) (fun v _=>(refsM o).length - (intOf v).toNat)
 case atStart=>exact⟨0,by omega,rfl,rfl,Below.refl _ _⟩
 obtain⟨k,hk,rfl,HK,hbl⟩:=hrel;have HBw:=Lh (bvo HB1.o hbl)
 by_cases hlt:k<(refsM o).length
 ·
  obtain⟨b,off,rfl,sb,hcc⟩:=HCv.o.resolve_left (by omega);obtain⟨v,hv⟩:=gol hlt;obtain⟨x0,x1,x2⟩:=hcc k v hv;have r0:=(hbl.cell (p:=⟨b,off+k*3,none⟩) sb).trans x0;have r1:=(hbl.cell (p:=⟨b,off+k*3+1,none⟩) sb).trans x1;have r2:=(hbl.cell (p:=⟨b,off+k*3+2,none⟩) sb).trans x2;have sb':b<wr.heap.size:=Nat.lt_of_lt_of_le sb hbl.size;have HV:=Lh hv;have HAr:=Lh (HA.o.over HBw.o);have HN:=Lh (bvo hbl (bnew (w:=wr) (.cells (cV v) 74)));have HAn:=Lh (anw wr (cV v) 74);have hnl:=v.n.toNat_lt;clear x0 x1 x2 hcc hv;cases hg:goodVid v with
  | false =>have HO:=Lh (opGood_no HV.o (refOk_bad (id:=id) (i:=i) hg));have HG:=Lh hg;clear hg;go_wp2_with fail;refine(pgoodVid_any v _).mono ?_;rintro e w3 ⟨rfl,hb3⟩;rw [HG.o];have HB3:=Lh (bvo HN.o hb3);have HA3:=Lh ((HAr.o.alloc (.cells (cV v) 74)).over hb3);have HV3:=Lh (HAn.o.over hb3);obtain⟨i0,i1,si⟩:=HA3.o.c2;obtain⟨v0,v1,v2,sv⟩:=HV3.o.c3;clear hb3 r0 r1 r2 sb';go_wp2;go_ret;exact⟨rvb HO.o,bvo HB.o (bvo HB1.o HB3.o)⟩
  | true =>
   have HG:=Lh hg
   by_cases hp:v.pid=id
   rotate_left
   ·
    have e1:=eql_pid v.pid id false (by simp [hp]);unfold pidV at e1;have HK2:Hid (((refsM o).take (k+1)).all (refOk id i)=true):=all_take HV.o HK.o (refOk_far hg hp);clear hg hp;go_wp2_with fail;refine(pgoodVid_any v _).mono ?_;rintro e w3 ⟨rfl,hb3⟩;rw [HG.o];have HB3:=Lh (bvo HN.o hb3);have HA3:=Lh ((HAr.o.alloc (.cells (cV v) 74)).over hb3);have HV3:=Lh (HAn.o.over hb3);obtain⟨i0,i1,si⟩:=HA3.o.c2;obtain⟨v0,v1,v2,sv⟩:=HV3.o.c3;clear hb3 r0 r1 r2 sb';go_wp2;go_roundw
    case rel=>exact⟨k+1,hlt,by go_num,HK2,HB3.o⟩
    simp [intOf];omega
   have e1:=eql_pid v.pid id true (by simp [hp]);unfold pidV at e1;have HOw:=Lh (refOk_own (i:=i) hg hp);clear hg hp
   by_cases hn:i≤v.n.toNat
   · have e2:decide (i≤v.n.toNat)=true:=(by simpa using hn);have HO:=Lh (opGood_no HV.o (HOw.o.trans (by simp [hn])));go_wp2_with fail;refine(pgoodVid_any v _).mono ?_;rintro e w3 ⟨rfl,hb3⟩;rw [HG.o];have HB3:=Lh (bvo HN.o hb3);have HA3:=Lh ((HAr.o.alloc (.cells (cV v) 74)).over hb3);have HV3:=Lh (HAn.o.over hb3);obtain⟨i0,i1,si⟩:=HA3.o.c2;obtain⟨v0,v1,v2,sv⟩:=HV3.o.c3;clear hb3 r0 r1 r2 sb';go_wp2;go_ret;exact⟨rvb HO.o,bvo HB.o (bvo HB1.o HB3.o)⟩
   have e2:decide (i≤v.n.toNat)=false:=(by simpa using hn);have HK2:Hid (((refsM o).take (k+1)).all (refOk id i)=true):=all_take HV.o HK.o (HOw.o.trans (by simp [hn]));go_wp2_with fail;refine(pgoodVid_any v _).mono ?_;rintro e w3 ⟨rfl,hb3⟩;rw [HG.o];have HB3:=Lh (bvo HN.o hb3);have HA3:=Lh ((HAr.o.alloc (.cells (cV v) 74)).over hb3);have HV3:=Lh (HAn.o.over hb3);obtain⟨i0,i1,si⟩:=HA3.o.c2;obtain⟨v0,v1,v2,sv⟩:=HV3.o.c3;clear hb3 r0 r1 r2 sb';go_wp2;go_roundw
   case rel=>exact⟨k+1,hlt,by go_num,HK2,HB3.o⟩
   simp [intOf];omega
 have HO:Hid (opGood id i o=opTail id o):=by
  refine opGood_all ?_;have:=HK.o
  rwa [List.take_of_length_le (by omega)] at this
 have HAr:=Lh (HA.o.over HBw.o);have HCr:=Lh (HC.o.over HBw.o);obtain⟨i0,i1,si⟩:=HAr.o.c2;obtain⟨o0,o1,o2,o3,o4,o5,o6,o7,so⟩:=HCr.o.c8;have HBt:=Lh (bvo HB.o HBw.o)
 by_cases hk1:o.kind.toNat=1
 ·
  have hk:=hk1;clear hk1
  by_cases hc0:o.to=noVid
  rotate_left
  · have k1:((o.kind.toNat:Int) == 1)=true:=(by simp;omega);have a0:=eql_zero o.to false (by simp [hc0]);have HE:Hid (opGood id i o=false):=HO.o.trans ((opTail_1 hk).trans (by simp [hc0]));clear hk hc0;go_wp2;go_ret;exact⟨rvb HE.o,HBt.o⟩
  by_cases hc1:o.at'=noVid
  rotate_left
  · have k1:((o.kind.toNat:Int) == 1)=true:=(by simp;omega);have a0:=eql_zero o.to true (by simp [hc0]);have a1:=eql_zero o.at' false (by simp [hc1]);have HE:Hid (opGood id i o=false):=HO.o.trans ((opTail_1 hk).trans (by simp [hc0,hc1]));clear hk hc0 hc1;go_wp2;go_ret;exact⟨rvb HE.o,HBt.o⟩
  by_cases hc2:o.text.size=0
  · have k1:((o.kind.toNat:Int) == 1)=true:=(by simp;omega);have a0:=eql_zero o.to true (by simp [hc0]);have a1:=eql_zero o.at' true (by simp [hc1]);have t1:o.text.toList=[]:=empty_tl hc2;have HE:Hid (opGood id i o=true):=HO.o.trans ((opTail_1 hk).trans (by simp [hc0,hc1,hc2]));clear hk hc0 hc1 hc2;go_wp2;go_ret;exact⟨rvb HE.o,HBt.o⟩
  have k1:((o.kind.toNat:Int) == 1)=true:=by simp;omega
  have a0:=eql_zero o.to true (by simp [hc0]);have a1:=eql_zero o.at' true (by simp [hc1]);have t1:=nonempty_tl (s:=o.text) (by omega);have t2:=t1.1;have t3:=t1.2;clear t1;have HE:Hid (opGood id i o=false):=HO.o.trans ((opTail_1 hk).trans (by simp [hc0,hc1,hc2]));clear hk hc0 hc1 hc2;go_wp2;go_ret;exact⟨rvb HE.o,HBt.o⟩
 by_cases hk2:o.kind.toNat=2
 ·
  have hk:=hk2;clear hk2
  by_cases hc0:o.to=noVid
  · have k1:((o.kind.toNat:Int) == 1)=false:=(by simp;omega);have k2:((o.kind.toNat:Int) == 2)=true:=(by simp;omega);have a0:=eql_zero o.to true (by simp [hc0]);have HE:Hid (opGood id i o=nameOk o.text):=HO.o.trans ((opTail_2 hk).trans (by simp [hc0]));clear hk hc0;go_wp2_with fail;refine(name_any o.text _ HZ.o).mono ?_;rintro e w5 ⟨rfl,hb5⟩;have HB5:=Lh (bvo HBt.o hb5);clear hb5;go_wp2;go_ret;exact⟨rvb HE.o,HB5.o⟩
  have k1:((o.kind.toNat:Int) == 1)=false:=by simp;omega
  have k2:((o.kind.toNat:Int) == 2)=true:=by simp;omega
  have a0:=eql_zero o.to false (by simp [hc0]);have HE:Hid (opGood id i o=false):=HO.o.trans ((opTail_2 hk).trans (by simp [hc0]));clear hk hc0;go_wp2;go_ret;exact⟨rvb HE.o,HBt.o⟩
 by_cases hk3:o.kind.toNat=3
 ·
  have hk:=hk3;clear hk3
  by_cases hc0:o.to=noVid
  · have k1:((o.kind.toNat:Int) == 1)=false:=(by simp;omega);have k2:((o.kind.toNat:Int) == 2)=false:=(by simp;omega);have k3:((o.kind.toNat:Int) == 3)=true:=(by simp;omega);have a0:=eql_zero o.to true (by simp [hc0]);have HE:Hid (opGood id i o=lineOk o.text):=HO.o.trans ((opTail_3 hk).trans (by simp [hc0]));clear hk hc0;go_wp2_with fail;refine(line_any o.text _ HZ.o).mono ?_;rintro e w5 ⟨rfl,hb5⟩;have HB5:=Lh (bvo HBt.o hb5);clear hb5;go_wp2;go_ret;exact⟨rvb HE.o,HB5.o⟩
  have k1:((o.kind.toNat:Int) == 1)=false:=by simp;omega
  have k2:((o.kind.toNat:Int) == 2)=false:=by simp;omega
  have k3:((o.kind.toNat:Int) == 3)=true:=by simp;omega
  have a0:=eql_zero o.to false (by simp [hc0]);have HE:Hid (opGood id i o=false):=HO.o.trans ((opTail_3 hk).trans (by simp [hc0]));clear hk hc0;go_wp2;go_ret;exact⟨rvb HE.o,HBt.o⟩
 by_cases hk4:o.kind.toNat=4
 ·
  have hk:=hk4;clear hk4
  by_cases hc0:o.at'=o.to
  · have k1:((o.kind.toNat:Int) == 1)=false:=(by simp;omega);have k2:((o.kind.toNat:Int) == 2)=false:=(by simp;omega);have k3:((o.kind.toNat:Int) == 3)=false:=(by simp;omega);have k4:((o.kind.toNat:Int) == 4)=true:=(by simp;omega);have a0:=eql_zero o.to (decide (o.to=noVid)) rfl;have a1:=neq_vid o.at' o.to false (by simp [hc0]);unfold vidV at a1;have HE:Hid (opGood id i o=false):=HO.o.trans ((opTail_4 hk).trans (by simp [hc0]));clear hk hc0;go_wp2;go_ret;exact⟨rvb HE.o,HBt.o⟩
  by_cases hc1:o.text.size=0
  · have k1:((o.kind.toNat:Int) == 1)=false:=(by simp;omega);have k2:((o.kind.toNat:Int) == 2)=false:=(by simp;omega);have k3:((o.kind.toNat:Int) == 3)=false:=(by simp;omega);have k4:((o.kind.toNat:Int) == 4)=true:=(by simp;omega);have a0:=eql_zero o.to (decide (o.to=noVid)) rfl;have a1:=neq_vid o.at' o.to true (by simp [hc0]);unfold vidV at a1;have t1:o.text.toList=[]:=empty_tl hc1;have HE:Hid (opGood id i o=true):=HO.o.trans ((opTail_4 hk).trans (by simp [hc0,hc1]));clear hk hc0 hc1;go_wp2;go_ret;exact⟨rvb HE.o,HBt.o⟩
  have k1:((o.kind.toNat:Int) == 1)=false:=by simp;omega
  have k2:((o.kind.toNat:Int) == 2)=false:=by simp;omega
  have k3:((o.kind.toNat:Int) == 3)=false:=by simp;omega
  have k4:((o.kind.toNat:Int) == 4)=true:=by simp;omega
  have a0:=eql_zero o.to (decide (o.to=noVid)) rfl;have a1:=neq_vid o.at' o.to true (by simp [hc0]);unfold vidV at a1;have t1:=nonempty_tl (s:=o.text) (by omega);have t2:=t1.1;have t3:=t1.2;clear t1;have HE:Hid (opGood id i o=false):=HO.o.trans ((opTail_4 hk).trans (by simp [hc0,hc1]));clear hk hc0 hc1;go_wp2;go_ret;exact⟨rvb HE.o,HBt.o⟩
 by_cases hk5:o.kind.toNat=5
 rotate_left
 ·
  have a0:=eql_zero o.to (decide (o.to=noVid)) rfl;have k1:((o.kind.toNat:Int) == 1)=false:=by simp;omega
  have k2:((o.kind.toNat:Int) == 2)=false:=by simp;omega
  have k3:((o.kind.toNat:Int) == 3)=false:=by simp;omega
  have k4:((o.kind.toNat:Int) == 4)=false:=by simp;omega
  have k5:((o.kind.toNat:Int) == 5)=false:=by simp;omega
  have HE:Hid (opGood id i o=false):=HO.o.trans (opTail_6 ⟨hk1,hk2,hk3,hk4,hk5⟩);clear hk1 hk2 hk3 hk4 hk5;go_wp2;go_ret;exact⟨rvb HE.o,HBt.o⟩
 have hk:=hk5;clear hk5
 by_cases hc0:o.to=noVid
 rotate_left
 ·
  have k1:((o.kind.toNat:Int) == 1)=false:=by simp;omega
  have k2:((o.kind.toNat:Int) == 2)=false:=by simp;omega
  have k3:((o.kind.toNat:Int) == 3)=false:=by simp;omega
  have k4:((o.kind.toNat:Int) == 4)=false:=by simp;omega
  have k5:((o.kind.toNat:Int) == 5)=true:=by simp;omega
  have a0:=eql_zero o.to false (by simp [hc0]);have HE:Hid (opGood id i o=false):=HO.o.trans ((opTail_5 hk).trans (by simp [hc0]));clear hk hc0;go_wp2;go_ret;exact⟨rvb HE.o,HBt.o⟩
 by_cases hc1:o.at'.pid=id
 ·
  have k1:((o.kind.toNat:Int) == 1)=false:=by simp;omega
  have k2:((o.kind.toNat:Int) == 2)=false:=by simp;omega
  have k3:((o.kind.toNat:Int) == 3)=false:=by simp;omega
  have k4:((o.kind.toNat:Int) == 4)=false:=by simp;omega
  have k5:((o.kind.toNat:Int) == 5)=true:=by simp;omega
  have a0:=eql_zero o.to true (by simp [hc0]);have a1:=neq_pid o.at'.pid id false (by simp [hc1]);unfold pidV at a1;have HE:Hid (opGood id i o=false):=HO.o.trans ((opTail_5 hk).trans (by simp [hc0,hc1]));clear hk hc0 hc1;go_wp2;go_ret;exact⟨rvb HE.o,HBt.o⟩
 by_cases hc2:o.text.size=0
 ·
  have k1:((o.kind.toNat:Int) == 1)=false:=by simp;omega
  have k2:((o.kind.toNat:Int) == 2)=false:=by simp;omega
  have k3:((o.kind.toNat:Int) == 3)=false:=by simp;omega
  have k4:((o.kind.toNat:Int) == 4)=false:=by simp;omega
  have k5:((o.kind.toNat:Int) == 5)=true:=by simp;omega
  have a0:=eql_zero o.to true (by simp [hc0]);have a1:=neq_pid o.at'.pid id true (by simp [hc1]);unfold pidV at a1;have t1:o.text.toList=[]:=empty_tl hc2;have HE:Hid (opGood id i o=true):=HO.o.trans ((opTail_5 hk).trans (by simp [hc0,hc1,hc2]));clear hk hc0 hc1 hc2;go_wp2;go_ret;exact⟨rvb HE.o,HBt.o⟩
 have k1:((o.kind.toNat:Int) == 1)=false:=by simp;omega
 have k2:((o.kind.toNat:Int) == 2)=false:=by simp;omega
 have k3:((o.kind.toNat:Int) == 3)=false:=by simp;omega
 have k4:((o.kind.toNat:Int) == 4)=false:=by simp;omega
 have k5:((o.kind.toNat:Int) == 5)=true:=by simp;omega
 have a0:=eql_zero o.to true (by simp [hc0]);have a1:=neq_pid o.at'.pid id true (by simp [hc1]);unfold pidV at a1;have t1:=nonempty_tl (s:=o.text) (by omega);have t2:=t1.1;have t3:=t1.2;clear t1;have HE:Hid (opGood id i o=false):=HO.o.trans ((opTail_5 hk).trans (by simp [hc0,hc1,hc2]));clear hk hc0 hc1 hc2;go_wp2;go_ret;exact⟨rvb HE.o,HBt.o⟩
end
attribute [local irreducible] refsM refOk goodVid opGood opTail
end Go.Proofs.YtjccmcgglfncdaaGreatDoor
namespace Go.Proofs.YtjccmcgglfncdaaGreatDoor
open Go Go.RowKit
variable{B:Nat}{v:Value}{w:World}
section
variable {α : Type} {enc : α → List Value} {sz : Nat} {e : TypeId}
def GRow(enc:α→List Value)(sz:Nat)(w:World)(v:Value)(xs:List α):Prop:=Row w v xs.length sz (xs.flatMap enc)
def GOwn(enc:α→List Value)(sz:Nat)(e:TypeId)(w:World)(B:Nat)(v:Value)(xs:List α):Prop:=w.ownsRow B e sz v xs.length (xs.flatMap enc)
theorem GOwn.row{xs:List α}(h:GOwn enc sz e w B v xs):GRow enc sz w v xs:=own_row h
theorem GRow.over{w':World}{xs:List α}(h:GRow enc sz w v xs)(hb:Be w w'):GRow enc sz w' v xs:=Row.over h hb
theorem GOwn.over{w':World}{xs:List α}(h:GOwn enc sz e w B v xs)(hb:Be w w'):GOwn enc sz e w' B v xs:=own_over h hb
theorem grow_nil(w:World):GRow enc sz w (.slice none 0 0) []:=row_nil w sz
theorem gown_nil(w:World)(B:Nat):GOwn enc sz e w B (.slice none 0 0) []:=World.ownsRow_nil w B e sz
theorem GOwn.snoc{xs:List α}{x:α}(h:w.ownsRow B e sz v (xs.length+1) (xs.flatMap enc++enc x)):GOwn enc sz e w B v (xs++[x]):=by unfold GOwn;rw [List.length_append,List.flatMap_append];simpa using h
theorem GRow.at{xs:List α}(hf:∀ x,(enc x).length=sz)(h:GRow enc sz w v xs):∃ a cap,v=.slice a xs.length cap∧xs.length≤cap∧cap≤maxLen∧(xs.length=0∨∃ b off,a=some ⟨b,off,none⟩∧b<w.heap.size ∧
  ∀ i x,xs[i]? = some x→∀ W,Be w W→b<W.heap.size∧∀ j u,(enc x)[j]? = some u→W.cell? ⟨b,off+i*sz+j,none⟩=some u):=by obtain⟨a,cap,e1,e2,e3,_,e5⟩:=Row.form h;refine⟨a,cap,e1,e2,e3,e5.imp id ?_⟩;rintro⟨b,off,rfl,hb,hc⟩;refine⟨b,off,rfl,hb,fun i x hx W hW=>⟨Nat.lt_of_lt_of_le hb hW.size,fun j u hu => ?_⟩⟩;rw [hW.cell (p:=⟨b,off+i*sz+j,none⟩) hb];exact Row.elem hf hc hx hu
end
theorem own_cases{α:Type}{enc:α→List Value}{sz:Nat}{E:TypeId}{xs:List α}(h:GOwn enc sz E w B v xs):(xs=[]∧∃ p c,v=.slice p 0 c)∨(xs≠[]∧∃ g cap,v=.slice (some ⟨g,0,none⟩) xs.length cap∧OwnAt w B E sz g xs.length cap (xs.flatMap enc)):=by
 by_cases h0:xs=[]
 ·
  subst h0;obtain⟨_,h2⟩:=h;rcases h2 with⟨rfl,_⟩|⟨g,cap,cur,rfl,_⟩
  · exact .inl ⟨rfl,_,_,rfl⟩
  exact .inl ⟨rfl,_,_,rfl⟩
 obtain⟨g,cap,h1,h2⟩:=own_at h (fun e=>h0 (List.eq_nil_of_length_eq_zero e));exact .inr ⟨h0,g,cap,h1,h2⟩
theorem encPid_len(p:PidM):(encPid p).length=2:=rfl
theorem encVid_len(p:VidM):(encVid p).length=3:=rfl
theorem encOp_len(p:OpM):(encOp p).length=8:=rfl
theorem encVert_len(p:VertM):(encVert p).length=9:=rfl
theorem slPid:SlT Tryz.prog 42 25 2 4:=slT_of Tryz.underlying42 (by kernel_rfl) (by decide)
theorem slVid:SlT Tryz.prog 148 74 3 6:=slT_of Tryz.underlying148 (by kernel_rfl) (by decide)
end Go.Proofs.YtjccmcgglfncdaaGreatDoor
namespace Go.Proofs.YtjccmcgglfncdaaGreatDoor
open Go Go.RowKit
section
variable {α : Type} {key : α → Nat}
end
attribute [local irreducible] packPid packVid cmpN putS
end Go.Proofs.YtjccmcgglfncdaaGreatDoor
namespace Go.Proofs.YtjccmcgglfncdaaGreatDoor
open Go Go.RowKit
theorem take_all{α:Type}{l m:List α}(hl:l.length=m.length)(h:l.take l.length=m.take l.length):l=m:=by rw [List.take_length,hl,List.take_length] at h;exact h
theorem take_ne{α:Type}{l m:List α}{k:Nat}{x y:α}(hx:l[k]? = some x)(hy:m[k]? = some y)(h:¬ x=y):¬ l=m:=by rintro rfl;rw [hx] at hy;exact h (Option.some.inj hy)
variable{vs:List VidM}{id:PidM}{w:World}
def farPids(id:PidM)(vs:List VidM):List PidM:=(vs.filter fun v=>v.pid≠id).map (·.pid)
theorem farPids_yes{k:Nat}{v:VidM}(h:vs[k]? = some v)(hv:¬ v.pid=id):farPids id (vs.take (k+1))=farPids id (vs.take k)++[v.pid]:=by unfold farPids;rw [tsg h,List.filter_append,List.map_append];simp [hv]
theorem farPids_no{k:Nat}{v:VidM}(h:vs[k]? = some v)(hv:v.pid=id):farPids id (vs.take (k+1))=farPids id (vs.take k):=by unfold farPids;rw [tsg h,List.filter_append,List.map_append];simp [hv]
theorem farPids_len(id:PidM)(vs:List VidM):(farPids id vs).length≤vs.length:=by unfold farPids;rw [List.length_map];exact List.length_filter_le _ _
def preDep(id:PidM):List PidM:=if 1<id.seq.toNat then [⟨id.author,id.seq - 1⟩] else []
def depsTo(id:PidM)(ops:List OpM):List PidM:=preDep id++ops.flatMap fun o=>farPids id (refsM o)
theorem depsTo_all(id:PidM)(ops:List OpM):setS packPid (depsTo id ops)=depsM id ops:=rfl
theorem depsTo_succ{ops:List OpM}{i:Nat}{o:OpM}(h:ops[i]? = some o):depsTo id (ops.take (i+1))=depsTo id (ops.take i)++farPids id (refsM o):=by unfold depsTo;rw [tsg h,List.flatMap_append];simp
theorem preDep_len(id:PidM):(preDep id).length≤1:=by unfold preDep;split <;> simp
theorem far_len(id:PidM):∀ ops:List OpM,(ops.flatMap fun o=>farPids id (refsM o)).length≤2*ops.length
 | []=>by simp
 | o :: ops=>by have h2:=farPids_len id (refsM o);have h3:=refs_len o;have h4:=far_len id ops;rw [List.flatMap_cons,List.length_append,List.length_cons];omega
theorem depsTo_len(id:PidM):∀ ops:List OpM,(depsTo id ops).length≤1+2*ops.length:=by intro ops;have h1:=preDep_len id;have h2:=far_len id ops;unfold depsTo;rw [List.length_append];omega
theorem sub_seq{s:UInt16}(h:1<s.toNat):((s - 1).toNat:Int)=(s.toNat:Int) - 1:=by
 have:(s - 1).toNat=s.toNat - 1:=by
  rw [UInt16.toNat_sub_of_le]
  · rfl
  rw [UInt16.le_iff_toNat_le];show 1≤_;omega
 rw [this];omega
theorem refs_at{a:Option Addr}{n c:Nat}(h:RefsAt w (.slice a n c) vs)(hp:0<vs.length):∃ g,a=some ⟨g,0,none⟩∧ArrT w g 74 (vs.flatMap encVid):=by
 rcases h with⟨rfl,_⟩|⟨_,_,g,e,hA⟩
 · simp at hp
 cases e;exact⟨g,rfl,hA⟩
theorem RefsAt.over{w':World}{v:Value}(h:RefsAt w v vs)(hb:Be w w'):RefsAt w' v vs:=by
 rcases h with h|⟨h1,h2,g,e,hA⟩
 · exact .inl h
 exact .inr ⟨h1,h2,g,e,hA.over hb⟩
theorem RefsAt.grown{w':World}{B sz n:Nat}{e:TypeId}{v u:Value}{xs:List Value}(h:RefsAt w v vs)(ho:w.ownsRow B e sz u n xs)(hn:e≠74)(hg:w.grownBy w' u.ownBlock):RefsAt w' v vs:=by
 rcases h with h|⟨h1,h2,g,e,hA⟩
 · exact .inl h
 exact .inr ⟨h1,h2,g,e,hA.grown ho hn hg⟩
def DpOut(w0:World)(id:PidM)(ops:List OpM)(v5 v6:Value)(wr:World):Prop:=
 ∃ i:Nat,i≤ops.length∧v6=.int .i64 i∧Hid (GOwn encPid 2 25 wr w0.heap.size v5 (depsTo id (ops.take i)))∧Be w0 wr
def DpIn(w0:World)(id:PidM)(A:List PidM)(vs:List VidM)(vr:Value)(v5 v8:Value)(wr:World):Prop:=
 ∃ k:Nat,k≤vs.length∧v8=.int .i64 k∧Hid (GOwn encPid 2 25 wr w0.heap.size v5 (A++farPids id (vs.take k)))∧Hid (RefsAt wr vr vs)∧Be w0 wr
theorem preDep_yes(h:1<id.seq.toNat):preDep id=[⟨id.author,id.seq - 1⟩]:=by unfold preDep;rw [if_pos h]
theorem preDep_no(h:¬ 1<id.seq.toNat):preDep id=[]:=by unfold preDep;rw [if_neg h]
theorem depsTo_nil(id:PidM):depsTo id []=preDep id:=by unfold depsTo;simp
theorem farPids_nil(id:PidM):farPids id []=[]:=rfl
attribute [local irreducible] refsM farPids preDep depsTo depsM
end Go.Proofs.YtjccmcgglfncdaaGreatDoor
