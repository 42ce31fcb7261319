/- Contracts of package word: Mark, Line; of strings.IndexByte. Contract of op.Good. Contract of bruitref17.Good. Rows of things that are several cells each: []api.Pid, []api.Vid, []api.Op, []api.Vert. -/
import Derived.Test.YtanfebljiblhbaaGreatDoorHWordA
import Derived.Test.YtanfebljiblhbaaGreatDoorHTreeQ
import Derived.Test.YtanfebljiblhbaaGreatDoorHRefs
set_option linter.unusedVariables false
set_option linter.unusedSimpArgs false
namespace Go.Proofs.YtanfebljiblhbaaGreatDoor
open Go Go.RowKit

set_option maxHeartbeats 1000000 in
set_option maxRecDepth 100000 in
theorem lite_index(s:ByteArray)(c:Int)(w:World) :
  Calls Tryz.prog 288 #[.string s,.int .u8 c] w fun e w'=>e=.returned (.int .i64 (Lib.indexByte s.data.toList c.toNat.toUInt8))∧w'=w:=by
 go_enter Tryz.func288,Tryz.ntmps288
 go_wp2
 rw [run_callFunc_extern Tryz.func311 (by kernel_rfl) (by kernel_rfl) (by kernel_rfl) (e:=Extern.BytealgIndexByte.indexByte) (by kernel_rfl),Lib.run_indexByteString]
 simp only [Result.andThen]
 rw [Oper.upon_value]
 go_wp2
 go_ret
 exact⟨rfl,rfl⟩
set_option maxRecDepth 100000 in
theorem index_any(s:ByteArray)(c:Int)(w:World) :
  Calls Tryz.prog 248 #[.string s,.int .u8 c] w fun e w'=>e=.returned (.int .i64 (Lib.indexByte s.data.toList c.toNat.toUInt8))∧w'=w:=by
 go_enter Tryz.func248,Tryz.ntmps248
 go_wp2_with (go_at_call 288;(with_reducible refine(lite_index _ _ _).mono ?_);rintro e w2 ⟨rfl,rfl⟩)
 go_ret
 exact⟨rfl,rfl⟩

set_option maxHeartbeats 1000000 in
theorem mark_any(s:ByteArray)(w:World)(hs:s.size≤maxLen) :
  Calls Tryz.prog 249 #[.string s] w fun e w'=>e=.returned (.bool (markOk s))∧Below w.heap.size w w':=by
 unfold maxLen at hs
 by_cases h7:s.size<7
 ·
  have HM:=Lib.hid (mark_short h7)
  go_enter Tryz.func249,Tryz.ntmps249
  go_wp2
  go_ret
  exact⟨ret_val (congrArg Value.bool HM.out.symm),Below.refl _ _⟩
 ·
  have h0:0<s.size:=by omega
  have HE:=Lib.hid (mark_ext (s:=s) (by omega))
  have hix:∀ w,Calls Tryz.prog 248 #[.string ⟨#[60,61,62,124]⟩,.int .u8 (s[0].toNat:Int)] w fun e w'=>e=.returned (.int .i64 (Lib.indexByte [60,61,62,124] s[0]))∧w'=w:=fun w=>by
   have:=index_any ⟨#[60,61,62,124]⟩ (s[0].toNat:Int) w
   rwa [toUInt8_cast] at this
  have hsg:=sign_ix s[0]
  generalize Lib.indexByte [60,61,62,124] s[0]=ix at *
  cases hm:markAt s[0] with
  | false =>
   rw [hm] at hsg
   have hi:ix<0:=by simpa using hsg
   rw [hm,Bool.false_and] at HE
   clear hm hsg
   go_enter Tryz.func249,Tryz.ntmps249
   go_wp2_with (go_at_call 248;(with_reducible refine(hix _).mono ?_);rintro e w2 ⟨rfl,rfl⟩)
   go_ret
   exact⟨ret_val (congrArg Value.bool HE.out.symm),Below.refl _ _⟩
  | true =>
   rw [hm] at hsg
   have hi:¬ ix<0:=by simpa using hsg
   rw [hm,Bool.true_and] at HE
   clear hm hsg
   go_enter Tryz.func249,Tryz.ntmps249
   go_wp2_with (go_at_call 248;(with_reducible refine(hix _).mono ?_);rintro e w2 ⟨rfl,rfl⟩)
   refine wp_region_lex (C:=IsOver w2) 6 [] (by kernel_rfl) (by kernel_rfl) (isOver_of (by repeat(first|exact Below.refl _ _|apply Below.drew|apply below_drewN|(refine Below.alloc ?_ (by simp) _)))) ?_
   simp only [List.take_succ_cons,List.take_zero,List.drop_succ_cons,List.drop_zero]
   repeat(first|(refine lex_skip rfl rfl ?_;simp only [Act.put,List.setIfInBounds_toArray,List.set_cons_succ,List.set_cons_zero])|(refine lex_one rfl ?_;go_big_quiet_step (fail);refine wpQuiet_nil ?_))
   refine lex_end ?_
   go_wp2_with fail
   go_ret
   exact⟨ret_val (congrArg Value.bool HE.out.symm),(Below.refl _ _).drew⟩

set_option maxHeartbeats 1000000 in
theorem line_any(s:ByteArray)(w:World)(hs:s.size≤maxLen) :
  Calls Tryz.prog 200 #[.string s] w fun e w'=>e=.returned (.bool (lineOk s))∧Below w.heap.size w w':=by
 have HM:=Lib.hid hs
 unfold maxLen at hs
 have HE:=Lib.hid (line_ix s)
 have hix:∀ w,Calls Tryz.prog 248 #[.string s,.int .u8 10] w fun e w'=>e=.returned (.int .i64 (Lib.indexByte s.data.toList 10))∧w'=w:=fun w=>index_any s 10 w
 generalize Lib.indexByte s.data.toList 10=ix at *
 by_cases h6:s.size≤60
 ·
  by_cases hi:ix<0
  ·
   go_enter Tryz.func200,Tryz.ntmps200
   go_wp2_with (first|(go_at_call 248;(with_reducible refine(hix _).mono ?_);rintro e w2 ⟨rfl,rfl⟩)|(go_at_call 249;(with_reducible refine(mark_any _ _ HM.out).mono ?_);rintro e w2 ⟨rfl,hb⟩))
   go_ret
   refine⟨ret_val ?_,hb⟩
   rw [HE.out];simp [hi,h6]
  ·
   have HI:=Lib.hid (show decide (ix<0)=false by simpa using hi)
   go_enter Tryz.func200,Tryz.ntmps200
   go_wp2_with (first|(go_at_call 248;(with_reducible refine(hix _).mono ?_);rintro e w2 ⟨rfl,rfl⟩))
   go_ret
   refine⟨ret_val ?_,Below.refl _ _⟩
   rw [HE.out,HI.out];rfl
 ·
  go_enter Tryz.func200,Tryz.ntmps200
  go_wp2
  go_ret
  refine⟨ret_val ?_,Below.refl _ _⟩
  rw [HE.out];simp [h6]
end Go.Proofs.YtanfebljiblhbaaGreatDoor
namespace Go.Proofs.YtanfebljiblhbaaGreatDoor
open Go Go.RowKit

theorem eql_zero(x:VidM)(b:Bool)(h:decide (x=noVid)=b)(w:World):(binOp .eql 27 (.agg #[.int .u8 x.pid.author.toNat,.int .u16 x.pid.seq.toNat,.int .u8 x.n.toNat]) (.agg #[.int .u8 0,.int .u16 0,.int .u8 0])).run Tryz.prog w=.ok (.bool b) w:=eql_vid x noVid b h w
/-- what a row of names holds -/
theorem VRow.form{w:World}{v:Value}{vs:List VidM}(h:VRow w v vs):∃ a cap,v=.slice a vs.length cap∧vs.length≤cap∧cap≤maxLen∧(vs.length=0∨∃ b off,a=some ⟨b,off,none⟩∧b<w.heap.size∧∀ i x,vs[i]? = some x →
  w.cell? ⟨b,off+i*3,none⟩=some (.int .u8 x.pid.author.toNat)∧w.cell? ⟨b,off+i*3+1,none⟩=some (.int .u16 x.pid.seq.toNat)∧w.cell? ⟨b,off+i*3+2,none⟩=some (.int .u8 x.n.toNat)):=by
 obtain⟨a,cap,e1,e2,e3,_,e5⟩:=Row.form h
 refine⟨a,cap,e1,e2,e3,e5.imp id ?_⟩
 rintro⟨b,off,rfl,hb,hc⟩
 have hf:∀ x:VidM,(encVid x).length=3:=fun _=>rfl
 exact⟨b,off,rfl,hb,fun i x hx=>⟨Row.elem (j:=0) hf hc hx rfl,Row.elem (j:=1) hf hc hx rfl,Row.elem (j:=2) hf hc hx rfl⟩⟩
theorem opGood_no{id:PidM}{i:Nat}{o:OpM}{k:Nat}{v:VidM}(hv:(refsM o)[k]? = some v)(h:refOk id i v=false):opGood id i o=false:=by
 unfold opGood
 have:(refsM o).all (refOk id i)=false:=by
  rw [List.all_eq_false]
  exact⟨v,List.mem_of_getElem? hv,by simp [h]⟩
 rw [this];rfl
theorem opGood_all{id:PidM}{i:Nat}{o:OpM}(h:(refsM o).all (refOk id i)=true):opGood id i o=opTail id o:=by unfold opGood;rw [h];rfl
theorem all_take{id:PidM}{i:Nat}{l:List VidM}{k:Nat}{v:VidM}(hv:l[k]? = some v)(h:(l.take k).all (refOk id i)=true)(h':refOk id i v=true):(l.take (k+1)).all (refOk id i)=true:=by
 rw [take_succ_get hv,List.all_append,h];simp [h']
theorem refOk_bad{id:PidM}{i:Nat}{v:VidM}(h:goodVid v=false):refOk id i v=false:=by unfold refOk;rw [h];rfl
theorem refOk_far{id:PidM}{i:Nat}{v:VidM}(h:goodVid v=true)(h':¬ v.pid=id):refOk id i v=true:=by unfold refOk;simp [h,h']
theorem refOk_own{id:PidM}{i:Nat}{v:VidM}(h:goodVid v=true)(h':v.pid=id):refOk id i v = !decide (i≤v.n.toNat):=by unfold refOk;simp [h,h']
def OgRel(w0:World)(id:PidM)(i:Nat)(o:OpM)(v:Value)(wr:World):Prop:=∃ k:Nat,k≤(refsM o).length∧v=.int .i64 k∧Hid (((refsM o).take k).all (refOk id i)=true)∧Below w0.heap.size w0 wr
theorem opTail_1{id:PidM}{o:OpM}(h:o.kind.toNat=1):opTail id o=(decide (o.at'=noVid) && (decide (o.to=noVid) && decide (o.text.size=0))):=by
 have e:o.kind=1:=(u8_nat _ 1 (by omega)).2 h
 unfold opTail;rw [e];rfl
theorem opTail_2{id:PidM}{o:OpM}(h:o.kind.toNat=2):opTail id o=(decide (o.to=noVid) && nameOk o.text):=by
 have e:o.kind=2:=(u8_nat _ 2 (by omega)).2 h
 unfold opTail;rw [e];rfl
theorem opTail_3{id:PidM}{o:OpM}(h:o.kind.toNat=3):opTail id o=(decide (o.to=noVid) && lineOk o.text):=by
 have e:o.kind=3:=(u8_nat _ 3 (by omega)).2 h
 unfold opTail;rw [e];rfl
theorem opTail_4{id:PidM}{o:OpM}(h:o.kind.toNat=4):opTail id o=(decide (o.at'≠o.to) && decide (o.text.size=0)):=by
 have e:o.kind=4:=(u8_nat _ 4 (by omega)).2 h
 unfold opTail;rw [e];rfl
theorem opTail_5{id:PidM}{o:OpM}(h:o.kind.toNat=5):opTail id o=(decide (o.at'.pid≠id) && (decide (o.to=noVid) && decide (o.text.size=0))):=by
 have e:o.kind=5:=(u8_nat _ 5 (by omega)).2 h
 unfold opTail;rw [e];rfl
theorem opTail_6{id:PidM}{o:OpM}(h:¬ o.kind.toNat=1∧¬ o.kind.toNat=2∧¬ o.kind.toNat=3∧¬ o.kind.toNat=4∧¬ o.kind.toNat=5):opTail id o=false:=by
 obtain⟨h1,h2,h3,h4,h5⟩:=h
 have n1:¬ o.kind=1:=fun e=>h1 (by rw [e];rfl)
 have n2:¬ o.kind=2:=fun e=>h2 (by rw [e];rfl)
 have n3:¬ o.kind=3:=fun e=>h3 (by rw [e];rfl)
 have n4:¬ o.kind=4:=fun e=>h4 (by rw [e];rfl)
 have n5:¬ o.kind=5:=fun e=>h5 (by rw [e];rfl)
 unfold opTail
 rw [if_neg n1,if_neg n2,if_neg n3,if_neg n4,if_neg n5]
theorem refs_len(o:OpM):(refsM o).length≤2:=by
 unfold refsM
 split
 ·
  simp
 ·
  split <;> simp
attribute [local irreducible] refsM refOk goodVid opGood opTail
set_option maxHeartbeats 10000000 in
set_option maxRecDepth 100000 in
theorem pogood_any(id:PidM)(i:Nat)(o:OpM)(w:World)(hi:i<4611686018427387904)(hz:o.text.size≤maxLen) :
  Calls Tryz.prog 143 #[pidV id,.int .i64 i,opV o] w fun e w'=>e=.returned (.bool (opGood id i o))∧Below w.heap.size w w':=by
 have HZ:=Lib.hid hz
 have hrl:=refs_len o
 have HA:=Lib.hid ((arr_new w #[.int .u8 id.author.toNat,.int .u16 id.seq.toNat] 25).alloc (.cells #[.int .u8 o.kind.toNat,.int .u8 o.at'.pid.author.toNat,.int .u16 o.at'.pid.seq.toNat,.int .u8 o.at'.n.toNat,.int .u8 o.to.pid.author.toNat,.int .u16 o.to.pid.seq.toNat,.int .u8 o.to.n.toNat,.string o.text] 96))
 have HC:=Lib.hid (arr_new2 w (.cells #[.int .u8 id.author.toNat,.int .u16 id.seq.toNat] 25) #[.int .u8 o.kind.toNat,.int .u8 o.at'.pid.author.toNat,.int .u16 o.at'.pid.seq.toNat,.int .u8 o.at'.n.toNat,.int .u8 o.to.pid.author.toNat,.int .u16 o.to.pid.seq.toNat,.int .u8 o.to.n.toNat,.string o.text] 96)
 have HB:=Lib.hid ((below_new (w:=w) (.cells #[.int .u8 id.author.toNat,.int .u16 id.seq.toNat] 25)).alloc (by simp) (.cells #[.int .u8 o.kind.toNat,.int .u8 o.at'.pid.author.toNat,.int .u16 o.at'.pid.seq.toNat,.int .u8 o.at'.n.toNat,.int .u8 o.to.pid.author.toNat,.int .u16 o.to.pid.seq.toNat,.int .u8 o.to.n.toNat,.string o.text] 96))
 have gp:=fun p q xs ys w=>guard_pid .eql p q xs ys w
 have gp2:=fun p q xs ys w=>guard_pid .neq p q xs ys w
 have gv:=fun p q xs ys w=>guard_vid .eql p q xs ys w
 have gv2:=fun p q xs ys w=>guard_vid .neq p q xs ys w
 clear hz
 unfold pidV opV
 go_enter Tryz.func143,Tryz.ntmps143
 go_wp2_with fail
 generalize hw0:(w.alloc (.cells #[.int .u8 id.author.toNat,.int .u16 id.seq.toNat] 25)).alloc (.cells #[.int .u8 o.kind.toNat,.int .u8 o.at'.pid.author.toNat,.int .u16 o.at'.pid.seq.toNat,.int .u8 o.at'.n.toNat,.int .u8 o.to.pid.author.toNat,.int .u16 o.to.pid.seq.toNat,.int .u8 o.to.n.toNat,.string o.text] 96)=w0 at *
 clear hw0
 refine(prefs_any o _).mono ?_
 rintro e w1 ⟨v1,rfl,hv1,hb1⟩
 obtain⟨a,cap,rfl,h1,h2,hc⟩:=(RefsAt.vrow hv1).form
 unfold maxLen at h2
 have HCv:=Lib.hid hc
 have HB1:=Lib.hid hb1
 clear hv1 hc hb1
 go_wp2_with fail
 go_loopw [13] (fun v wr=>OgRel w1 id i o v wr) (fun v _=>(refsM o).length - (intOf v).toNat)
 case atStart=>exact⟨0,by omega,rfl,rfl,Below.refl _ _⟩
 case round =>
  obtain⟨k,hk,rfl,HK,hbl⟩:=hrel
  have HBw:=Lib.hid (below_over HB1.out HB1.out.size hbl)
  by_cases hlt:k<(refsM o).length
  ·
   obtain⟨b,off,rfl,sb,hcc⟩:=HCv.out.resolve_left (by omega)
   obtain⟨v,hv⟩:=get_of_lt hlt
   obtain⟨x0,x1,x2⟩:=hcc k v hv
   have r0:=(hbl.cell (p:=⟨b,off+k*3,none⟩) sb).trans x0
   have r1:=(hbl.cell (p:=⟨b,off+k*3+1,none⟩) sb).trans x1
   have r2:=(hbl.cell (p:=⟨b,off+k*3+2,none⟩) sb).trans x2
   have sb':b<wr.heap.size:=Nat.lt_of_lt_of_le sb hbl.size
   have HV:=Lib.hid hv
   have HAr:=Lib.hid (HA.out.over HBw.out)
   have HN:=Lib.hid (below_over hbl hbl.size (below_new (w:=wr) (.cells #[.int .u8 v.pid.author.toNat,.int .u16 v.pid.seq.toNat,.int .u8 v.n.toNat] 27)))
   have HAn:=Lib.hid (arr_new wr #[.int .u8 v.pid.author.toNat,.int .u16 v.pid.seq.toNat,.int .u8 v.n.toNat] 27)
   have hnl:=v.n.toNat_lt
   clear x0 x1 x2 hcc hv
   cases hg:goodVid v with
   | false =>
    have HO:=Lib.hid (opGood_no HV.out (refOk_bad (id:=id) (i:=i) hg))
    have HG:=Lib.hid hg
    clear hg
    go_wp2_with fail
    refine(pgoodVid_any v _).mono ?_
    rintro e w3 ⟨rfl,hb3⟩
    rw [HG.out]
    have HB3:=Lib.hid (below_over HN.out HN.out.size hb3)
    have HA3:=Lib.hid ((HAr.out.alloc (.cells #[.int .u8 v.pid.author.toNat,.int .u16 v.pid.seq.toNat,.int .u8 v.n.toNat] 27)).over hb3)
    have HV3:=Lib.hid (HAn.out.over hb3)
    have i0:=HA3.out.cell (j:=0) rfl
    have i1:=HA3.out.cell (j:=1) rfl
    have si:=HA3.out.lt
    have v0:=HV3.out.cell (j:=0) rfl
    have v1:=HV3.out.cell (j:=1) rfl
    have v2:=HV3.out.cell (j:=2) rfl
    have sv:=HV3.out.lt
    clear hb3 r0 r1 r2 sb'
    go_wp2_with fail
    go_ret
    exact⟨ret_val (congrArg Value.bool HO.out.symm),below_over HB.out HB.out.size (below_over HB1.out HB1.out.size HB3.out)⟩
   | true =>
    have HG:=Lib.hid hg
    by_cases hp:v.pid=id
    ·
     have e1:=eql_pid v.pid id true (by simp [hp])
     unfold pidV at e1
     have HOw:=Lib.hid (refOk_own (i:=i) hg hp)
     clear hg hp
     by_cases hn:i≤v.n.toNat
     ·
      have e2:decide (i≤v.n.toNat)=true:=by simpa using hn
      have HO:=Lib.hid (opGood_no HV.out (HOw.out.trans (by simp [hn])))
      go_wp2_with fail
      refine(pgoodVid_any v _).mono ?_
      rintro e w3 ⟨rfl,hb3⟩
      rw [HG.out]
      have HB3:=Lib.hid (below_over HN.out HN.out.size hb3)
      have HA3:=Lib.hid ((HAr.out.alloc (.cells #[.int .u8 v.pid.author.toNat,.int .u16 v.pid.seq.toNat,.int .u8 v.n.toNat] 27)).over hb3)
      have HV3:=Lib.hid (HAn.out.over hb3)
      have i0:=HA3.out.cell (j:=0) rfl
      have i1:=HA3.out.cell (j:=1) rfl
      have si:=HA3.out.lt
      have v0:=HV3.out.cell (j:=0) rfl
      have v1:=HV3.out.cell (j:=1) rfl
      have v2:=HV3.out.cell (j:=2) rfl
      have sv:=HV3.out.lt
      clear hb3 r0 r1 r2 sb'
      go_wp2_with fail
      go_ret
      exact⟨ret_val (congrArg Value.bool HO.out.symm),below_over HB.out HB.out.size (below_over HB1.out HB1.out.size HB3.out)⟩
     ·
      have e2:decide (i≤v.n.toNat)=false:=by simpa using hn
      have HK2:Hid (((refsM o).take (k+1)).all (refOk id i)=true):=all_take HV.out HK.out (HOw.out.trans (by simp [hn]))
      go_wp2_with fail
      refine(pgoodVid_any v _).mono ?_
      rintro e w3 ⟨rfl,hb3⟩
      rw [HG.out]
      have HB3:=Lib.hid (below_over HN.out HN.out.size hb3)
      have HA3:=Lib.hid ((HAr.out.alloc (.cells #[.int .u8 v.pid.author.toNat,.int .u16 v.pid.seq.toNat,.int .u8 v.n.toNat] 27)).over hb3)
      have HV3:=Lib.hid (HAn.out.over hb3)
      have i0:=HA3.out.cell (j:=0) rfl
      have i1:=HA3.out.cell (j:=1) rfl
      have si:=HA3.out.lt
      have v0:=HV3.out.cell (j:=0) rfl
      have v1:=HV3.out.cell (j:=1) rfl
      have v2:=HV3.out.cell (j:=2) rfl
      have sv:=HV3.out.lt
      clear hb3 r0 r1 r2 sb'
      go_wp2_with fail
      go_roundw
      case rel=>exact⟨k+1,hlt,by go_num,HK2,HB3.out⟩
      case measure=>simp [intOf];omega
    ·
     have e1:=eql_pid v.pid id false (by simp [hp])
     unfold pidV at e1
     have HK2:Hid (((refsM o).take (k+1)).all (refOk id i)=true):=all_take HV.out HK.out (refOk_far hg hp)
     clear hg hp
     go_wp2_with fail
     refine(pgoodVid_any v _).mono ?_
     rintro e w3 ⟨rfl,hb3⟩
     rw [HG.out]
     have HB3:=Lib.hid (below_over HN.out HN.out.size hb3)
     have HA3:=Lib.hid ((HAr.out.alloc (.cells #[.int .u8 v.pid.author.toNat,.int .u16 v.pid.seq.toNat,.int .u8 v.n.toNat] 27)).over hb3)
     have HV3:=Lib.hid (HAn.out.over hb3)
     have i0:=HA3.out.cell (j:=0) rfl
     have i1:=HA3.out.cell (j:=1) rfl
     have si:=HA3.out.lt
     have v0:=HV3.out.cell (j:=0) rfl
     have v1:=HV3.out.cell (j:=1) rfl
     have v2:=HV3.out.cell (j:=2) rfl
     have sv:=HV3.out.lt
     clear hb3 r0 r1 r2 sb'
     go_wp2_with fail
     go_roundw
     case rel=>exact⟨k+1,hlt,by go_num,HK2,HB3.out⟩
     case measure=>simp [intOf];omega
  ·
   have HO:Hid (opGood id i o=opTail id o):=by
    refine opGood_all ?_
    have:=HK.out
    rwa [List.take_of_length_le (by omega)] at this
   have HAr:=Lib.hid (HA.out.over HBw.out)
   have HCr:=Lib.hid (HC.out.over HBw.out)
   have i0:=HAr.out.cell (j:=0) rfl
   have i1:=HAr.out.cell (j:=1) rfl
   have si:=HAr.out.lt
   have o0:=HCr.out.cell (j:=0) rfl
   have o1:=HCr.out.cell (j:=1) rfl
   have o2:=HCr.out.cell (j:=2) rfl
   have o3:=HCr.out.cell (j:=3) rfl
   have o4:=HCr.out.cell (j:=4) rfl
   have o5:=HCr.out.cell (j:=5) rfl
   have o6:=HCr.out.cell (j:=6) rfl
   have o7:=HCr.out.cell (j:=7) rfl
   have so:=HCr.out.lt
   have HBt:=Lib.hid (below_over HB.out HB.out.size HBw.out)
   by_cases hk1:o.kind.toNat=1
   ·
    have hk:=hk1
    clear hk1
    by_cases hc0:o.to=noVid
    ·
     by_cases hc1:o.at'=noVid
     ·
      by_cases hc2:o.text.size=0
      ·
       have k1:((o.kind.toNat:Int) == 1)=true:=by simp;omega
       have a0:=eql_zero o.to true (by simp [hc0])
       have a1:=eql_zero o.at' true (by simp [hc1])
       have t1:o.text.toList=[]:=empty_tl hc2
       have HE:Hid (opGood id i o=true):=HO.out.trans ((opTail_1 hk).trans (by simp [hc0,hc1,hc2]))
       clear hk hc0 hc1 hc2
       go_wp2_with fail
       go_ret
       exact⟨ret_val (congrArg Value.bool HE.out.symm),HBt.out⟩
      ·
       have k1:((o.kind.toNat:Int) == 1)=true:=by simp;omega
       have a0:=eql_zero o.to true (by simp [hc0])
       have a1:=eql_zero o.at' true (by simp [hc1])
       have t1:=nonempty_tl (s:=o.text) (by omega)
       have t2:=t1.1
       have t3:=t1.2
       clear t1
       have HE:Hid (opGood id i o=false):=HO.out.trans ((opTail_1 hk).trans (by simp [hc0,hc1,hc2]))
       clear hk hc0 hc1 hc2
       go_wp2_with fail
       go_ret
       exact⟨ret_val (congrArg Value.bool HE.out.symm),HBt.out⟩
     ·
      have k1:((o.kind.toNat:Int) == 1)=true:=by simp;omega
      have a0:=eql_zero o.to true (by simp [hc0])
      have a1:=eql_zero o.at' false (by simp [hc1])
      have HE:Hid (opGood id i o=false):=HO.out.trans ((opTail_1 hk).trans (by simp [hc0,hc1]))
      clear hk hc0 hc1
      go_wp2_with fail
      go_ret
      exact⟨ret_val (congrArg Value.bool HE.out.symm),HBt.out⟩
    ·
     have k1:((o.kind.toNat:Int) == 1)=true:=by simp;omega
     have a0:=eql_zero o.to false (by simp [hc0])
     have HE:Hid (opGood id i o=false):=HO.out.trans ((opTail_1 hk).trans (by simp [hc0]))
     clear hk hc0
     go_wp2_with fail
     go_ret
     exact⟨ret_val (congrArg Value.bool HE.out.symm),HBt.out⟩
   ·
    by_cases hk2:o.kind.toNat=2
    ·
     have hk:=hk2
     clear hk2
     by_cases hc0:o.to=noVid
     ·
      have k1:((o.kind.toNat:Int) == 1)=false:=by simp;omega
      have k2:((o.kind.toNat:Int) == 2)=true:=by simp;omega
      have a0:=eql_zero o.to true (by simp [hc0])
      have HE:Hid (opGood id i o=nameOk o.text):=HO.out.trans ((opTail_2 hk).trans (by simp [hc0]))
      clear hk hc0
      go_wp2_with fail
      refine(name_any o.text _ HZ.out).mono ?_
      rintro e w5 ⟨rfl,hb5⟩
      have HB5:=Lib.hid (below_over HBt.out HBt.out.size hb5)
      clear hb5
      go_wp2_with fail
      go_ret
      exact⟨ret_val (congrArg Value.bool HE.out.symm),HB5.out⟩
     ·
      have k1:((o.kind.toNat:Int) == 1)=false:=by simp;omega
      have k2:((o.kind.toNat:Int) == 2)=true:=by simp;omega
      have a0:=eql_zero o.to false (by simp [hc0])
      have HE:Hid (opGood id i o=false):=HO.out.trans ((opTail_2 hk).trans (by simp [hc0]))
      clear hk hc0
      go_wp2_with fail
      go_ret
      exact⟨ret_val (congrArg Value.bool HE.out.symm),HBt.out⟩
    ·
     by_cases hk3:o.kind.toNat=3
     ·
      have hk:=hk3
      clear hk3
      by_cases hc0:o.to=noVid
      ·
       have k1:((o.kind.toNat:Int) == 1)=false:=by simp;omega
       have k2:((o.kind.toNat:Int) == 2)=false:=by simp;omega
       have k3:((o.kind.toNat:Int) == 3)=true:=by simp;omega
       have a0:=eql_zero o.to true (by simp [hc0])
       have HE:Hid (opGood id i o=lineOk o.text):=HO.out.trans ((opTail_3 hk).trans (by simp [hc0]))
       clear hk hc0
       go_wp2_with fail
       refine(line_any o.text _ HZ.out).mono ?_
       rintro e w5 ⟨rfl,hb5⟩
       have HB5:=Lib.hid (below_over HBt.out HBt.out.size hb5)
       clear hb5
       go_wp2_with fail
       go_ret
       exact⟨ret_val (congrArg Value.bool HE.out.symm),HB5.out⟩
      ·
       have k1:((o.kind.toNat:Int) == 1)=false:=by simp;omega
       have k2:((o.kind.toNat:Int) == 2)=false:=by simp;omega
       have k3:((o.kind.toNat:Int) == 3)=true:=by simp;omega
       have a0:=eql_zero o.to false (by simp [hc0])
       have HE:Hid (opGood id i o=false):=HO.out.trans ((opTail_3 hk).trans (by simp [hc0]))
       clear hk hc0
       go_wp2_with fail
       go_ret
       exact⟨ret_val (congrArg Value.bool HE.out.symm),HBt.out⟩
     ·
      by_cases hk4:o.kind.toNat=4
      ·
       have hk:=hk4
       clear hk4
       by_cases hc0:o.at'=o.to
       ·
        have k1:((o.kind.toNat:Int) == 1)=false:=by simp;omega
        have k2:((o.kind.toNat:Int) == 2)=false:=by simp;omega
        have k3:((o.kind.toNat:Int) == 3)=false:=by simp;omega
        have k4:((o.kind.toNat:Int) == 4)=true:=by simp;omega
        have a0:=eql_zero o.to (decide (o.to=noVid)) rfl
        have a1:=neq_vid o.at' o.to false (by simp [hc0])
        unfold vidV at a1
        have HE:Hid (opGood id i o=false):=HO.out.trans ((opTail_4 hk).trans (by simp [hc0]))
        clear hk hc0
        go_wp2_with fail
        go_ret
        exact⟨ret_val (congrArg Value.bool HE.out.symm),HBt.out⟩
       ·
        by_cases hc1:o.text.size=0
        ·
         have k1:((o.kind.toNat:Int) == 1)=false:=by simp;omega
         have k2:((o.kind.toNat:Int) == 2)=false:=by simp;omega
         have k3:((o.kind.toNat:Int) == 3)=false:=by simp;omega
         have k4:((o.kind.toNat:Int) == 4)=true:=by simp;omega
         have a0:=eql_zero o.to (decide (o.to=noVid)) rfl
         have a1:=neq_vid o.at' o.to true (by simp [hc0])
         unfold vidV at a1
         have t1:o.text.toList=[]:=empty_tl hc1
         have HE:Hid (opGood id i o=true):=HO.out.trans ((opTail_4 hk).trans (by simp [hc0,hc1]))
         clear hk hc0 hc1
         go_wp2_with fail
         go_ret
         exact⟨ret_val (congrArg Value.bool HE.out.symm),HBt.out⟩
        ·
         have k1:((o.kind.toNat:Int) == 1)=false:=by simp;omega
         have k2:((o.kind.toNat:Int) == 2)=false:=by simp;omega
         have k3:((o.kind.toNat:Int) == 3)=false:=by simp;omega
         have k4:((o.kind.toNat:Int) == 4)=true:=by simp;omega
         have a0:=eql_zero o.to (decide (o.to=noVid)) rfl
         have a1:=neq_vid o.at' o.to true (by simp [hc0])
         unfold vidV at a1
         have t1:=nonempty_tl (s:=o.text) (by omega)
         have t2:=t1.1
         have t3:=t1.2
         clear t1
         have HE:Hid (opGood id i o=false):=HO.out.trans ((opTail_4 hk).trans (by simp [hc0,hc1]))
         clear hk hc0 hc1
         go_wp2_with fail
         go_ret
         exact⟨ret_val (congrArg Value.bool HE.out.symm),HBt.out⟩
      ·
       by_cases hk5:o.kind.toNat=5
       ·
        have hk:=hk5
        clear hk5
        by_cases hc0:o.to=noVid
        ·
         by_cases hc1:o.at'.pid=id
         ·
          have k1:((o.kind.toNat:Int) == 1)=false:=by simp;omega
          have k2:((o.kind.toNat:Int) == 2)=false:=by simp;omega
          have k3:((o.kind.toNat:Int) == 3)=false:=by simp;omega
          have k4:((o.kind.toNat:Int) == 4)=false:=by simp;omega
          have k5:((o.kind.toNat:Int) == 5)=true:=by simp;omega
          have a0:=eql_zero o.to true (by simp [hc0])
          have a1:=neq_pid o.at'.pid id false (by simp [hc1])
          unfold pidV at a1
          have HE:Hid (opGood id i o=false):=HO.out.trans ((opTail_5 hk).trans (by simp [hc0,hc1]))
          clear hk hc0 hc1
          go_wp2_with fail
          go_ret
          exact⟨ret_val (congrArg Value.bool HE.out.symm),HBt.out⟩
         ·
          by_cases hc2:o.text.size=0
          ·
           have k1:((o.kind.toNat:Int) == 1)=false:=by simp;omega
           have k2:((o.kind.toNat:Int) == 2)=false:=by simp;omega
           have k3:((o.kind.toNat:Int) == 3)=false:=by simp;omega
           have k4:((o.kind.toNat:Int) == 4)=false:=by simp;omega
           have k5:((o.kind.toNat:Int) == 5)=true:=by simp;omega
           have a0:=eql_zero o.to true (by simp [hc0])
           have a1:=neq_pid o.at'.pid id true (by simp [hc1])
           unfold pidV at a1
           have t1:o.text.toList=[]:=empty_tl hc2
           have HE:Hid (opGood id i o=true):=HO.out.trans ((opTail_5 hk).trans (by simp [hc0,hc1,hc2]))
           clear hk hc0 hc1 hc2
           go_wp2_with fail
           go_ret
           exact⟨ret_val (congrArg Value.bool HE.out.symm),HBt.out⟩
          ·
           have k1:((o.kind.toNat:Int) == 1)=false:=by simp;omega
           have k2:((o.kind.toNat:Int) == 2)=false:=by simp;omega
           have k3:((o.kind.toNat:Int) == 3)=false:=by simp;omega
           have k4:((o.kind.toNat:Int) == 4)=false:=by simp;omega
           have k5:((o.kind.toNat:Int) == 5)=true:=by simp;omega
           have a0:=eql_zero o.to true (by simp [hc0])
           have a1:=neq_pid o.at'.pid id true (by simp [hc1])
           unfold pidV at a1
           have t1:=nonempty_tl (s:=o.text) (by omega)
           have t2:=t1.1
           have t3:=t1.2
           clear t1
           have HE:Hid (opGood id i o=false):=HO.out.trans ((opTail_5 hk).trans (by simp [hc0,hc1,hc2]))
           clear hk hc0 hc1 hc2
           go_wp2_with fail
           go_ret
           exact⟨ret_val (congrArg Value.bool HE.out.symm),HBt.out⟩
        ·
         have k1:((o.kind.toNat:Int) == 1)=false:=by simp;omega
         have k2:((o.kind.toNat:Int) == 2)=false:=by simp;omega
         have k3:((o.kind.toNat:Int) == 3)=false:=by simp;omega
         have k4:((o.kind.toNat:Int) == 4)=false:=by simp;omega
         have k5:((o.kind.toNat:Int) == 5)=true:=by simp;omega
         have a0:=eql_zero o.to false (by simp [hc0])
         have HE:Hid (opGood id i o=false):=HO.out.trans ((opTail_5 hk).trans (by simp [hc0]))
         clear hk hc0
         go_wp2_with fail
         go_ret
         exact⟨ret_val (congrArg Value.bool HE.out.symm),HBt.out⟩
       ·
        have a0:=eql_zero o.to (decide (o.to=noVid)) rfl
        have k1:((o.kind.toNat:Int) == 1)=false:=by simp;omega
        have k2:((o.kind.toNat:Int) == 2)=false:=by simp;omega
        have k3:((o.kind.toNat:Int) == 3)=false:=by simp;omega
        have k4:((o.kind.toNat:Int) == 4)=false:=by simp;omega
        have k5:((o.kind.toNat:Int) == 5)=false:=by simp;omega
        have HE:Hid (opGood id i o=false):=HO.out.trans (opTail_6 ⟨hk1,hk2,hk3,hk4,hk5⟩)
        clear hk1 hk2 hk3 hk4 hk5
        go_wp2_with fail
        go_ret
        exact⟨ret_val (congrArg Value.bool HE.out.symm),HBt.out⟩
end Go.Proofs.YtanfebljiblhbaaGreatDoor
namespace Go.Proofs.YtanfebljiblhbaaGreatDoor
open Go Go.RowKit

attribute [local irreducible] refsM refOk goodVid opGood opTail
end Go.Proofs.YtanfebljiblhbaaGreatDoor
namespace Go.Proofs.YtanfebljiblhbaaGreatDoor
open Go Go.RowKit

section
variable {α : Type} {enc : α → List Value} {sz : Nat} {e : TypeId}
def GRow(enc:α→List Value)(sz:Nat)(w:World)(v:Value)(xs:List α):Prop:=Row w v xs.length sz (xs.flatMap enc)
def GOwn(enc:α→List Value)(sz:Nat)(e:TypeId)(w:World)(B:Nat)(v:Value)(xs:List α):Prop:=w.ownsRow B e sz v xs.length (xs.flatMap enc)
theorem GOwn.row{w:World}{B:Nat}{v:Value}{xs:List α}(h:GOwn enc sz e w B v xs):GRow enc sz w v xs:=own_row h
theorem GRow.over{w w':World}{v:Value}{xs:List α}(h:GRow enc sz w v xs)(hb:Below w.heap.size w w'):GRow enc sz w' v xs:=Row.over h hb
theorem GOwn.over{w w':World}{B:Nat}{v:Value}{xs:List α}(h:GOwn enc sz e w B v xs)(hb:Below w.heap.size w w'):GOwn enc sz e w' B v xs:=own_over h hb
theorem grow_nil(w:World):GRow enc sz w (.slice none 0 0) []:=row_nil w sz
theorem gown_nil(w:World)(B:Nat):GOwn enc sz e w B (.slice none 0 0) []:=World.ownsRow_nil w B e sz
theorem GOwn.snoc{w:World}{B:Nat}{v:Value}{xs:List α}{x:α}(h:w.ownsRow B e sz v (xs.length+1) (xs.flatMap enc++enc x)):GOwn enc sz e w B v (xs++[x]):=by
 unfold GOwn
 rw [List.length_append,List.flatMap_append];simpa using h
/-- what a row holds, at each place, in whatever world lies over -/
theorem GRow.at{w:World}{v:Value}{xs:List α}(hf:∀ x,(enc x).length=sz)(h:GRow enc sz w v xs):∃ a cap,v=.slice a xs.length cap∧xs.length≤cap∧cap≤maxLen∧(xs.length=0∨∃ b off,a=some ⟨b,off,none⟩∧b<w.heap.size ∧
  ∀ i x,xs[i]? = some x→∀ W,Below w.heap.size w W→b<W.heap.size∧∀ j u,(enc x)[j]? = some u→W.cell? ⟨b,off+i*sz+j,none⟩=some u):=by
 obtain⟨a,cap,e1,e2,e3,_,e5⟩:=Row.form h
 refine⟨a,cap,e1,e2,e3,e5.imp id ?_⟩
 rintro⟨b,off,rfl,hb,hc⟩
 refine⟨b,off,rfl,hb,fun i x hx W hW=>⟨Nat.lt_of_lt_of_le hb hW.size,fun j u hu => ?_⟩⟩
 rw [hW.cell (p:=⟨b,off+i*sz+j,none⟩) hb]
 exact Row.elem hf hc hx hu
end
theorem own_cases{α:Type}{enc:α→List Value}{sz:Nat}{E:TypeId}{w:World}{B:Nat}{v:Value}{xs:List α}(h:GOwn enc sz E w B v xs):(xs=[]∧∃ p c,v=.slice p 0 c)∨(xs≠[]∧∃ g cap,v=.slice (some ⟨g,0,none⟩) xs.length cap∧OwnAt w B E sz g xs.length cap (xs.flatMap enc)):=by
 by_cases h0:xs=[]
 ·
  subst h0
  obtain⟨_,h2⟩:=h
  rcases h2 with⟨rfl,_⟩|⟨g,cap,cur,rfl,_⟩
  ·
   exact .inl ⟨rfl,_,_,rfl⟩
  ·
   exact .inl ⟨rfl,_,_,rfl⟩
 ·
  obtain⟨g,cap,h1,h2⟩:=own_at h (fun e=>h0 (List.eq_nil_of_length_eq_zero e))
  exact .inr ⟨h0,g,cap,h1,h2⟩
theorem encPid_len(p:PidM):(encPid p).length=2:=rfl
theorem encVid_len(p:VidM):(encVid p).length=3:=rfl
theorem encOp_len(p:OpM):(encOp p).length=8:=rfl
theorem encVert_len(p:VertM):(encVert p).length=9:=rfl
theorem slPid:SlT Tryz.prog 68 25 2 4:=slT_of Tryz.underlying68 (by kernel_rfl) (by decide)
theorem slVid:SlT Tryz.prog 35 27 3 6:=slT_of Tryz.underlying35 (by kernel_rfl) (by decide)
end Go.Proofs.YtanfebljiblhbaaGreatDoor
