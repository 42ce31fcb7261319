/- Contracts of lines.Of's closures: binary search among vertices. -/
import Derived.Test.YtanfebljiblhbaaGreatDoorZSomeB
import Derived.Test.YtanfebljiblhbaaGreatDoorZBlkS
set_option linter.unusedVariables false
set_option linter.unusedSimpArgs false
namespace Go.Proofs.YtanfebljiblhbaaGreatDoor
open Go Go.RowKit

theorem cmpVid_lt1{a b:VidM}(h:packVid a<packVid b):cmpVid a b = -1:=cmpN_lt h
theorem cmpVid_same1(a:VidM):cmpVid a a=0:=cmpN_eq rfl
theorem cmpVid_nlt1{a b:VidM}(h:¬ packVid a<packVid b):decide (cmpVid a b<0)=false:=by
 rw [decide_eq_false_iff_not];unfold cmpVid;rw [cmpN_neg];exact h
attribute [local irreducible] cmpVid
set_option maxHeartbeats 8000000 in
set_option maxRecDepth 100000 in
theorem lcmp_any(x:VertM)(v:VidM)(w:World):Calls Tryz.prog 74 #[vertV x,vidV v] w fun e w'=>e=.returned (.int .i64 (cmpVid x.id v))∧Below w.heap.size w w':=by
 have HA:=Lib.hid ((arr_new w #[.int .u8 x.id.pid.author.toNat,.int .u16 x.id.pid.seq.toNat,.int .u8 x.id.n.toNat,.int .u8 x.kind.toNat,.int .u8 x.file.pid.author.toNat,.int .u16 x.file.pid.seq.toNat,.int .u8 x.file.n.toNat,.string x.text,.bool x.dead] 86).alloc (.cells #[.int .u8 v.pid.author.toNat,.int .u16 v.pid.seq.toNat,.int .u8 v.n.toNat] 27))
 have HC:=Lib.hid (arr_new2 w (.cells #[.int .u8 x.id.pid.author.toNat,.int .u16 x.id.pid.seq.toNat,.int .u8 x.id.n.toNat,.int .u8 x.kind.toNat,.int .u8 x.file.pid.author.toNat,.int .u16 x.file.pid.seq.toNat,.int .u8 x.file.n.toNat,.string x.text,.bool x.dead] 86) #[.int .u8 v.pid.author.toNat,.int .u16 v.pid.seq.toNat,.int .u8 v.n.toNat] 27)
 have HB:=Lib.hid ((below_new (w:=w) (.cells #[.int .u8 x.id.pid.author.toNat,.int .u16 x.id.pid.seq.toNat,.int .u8 x.id.n.toNat,.int .u8 x.kind.toNat,.int .u8 x.file.pid.author.toNat,.int .u16 x.file.pid.seq.toNat,.int .u8 x.file.n.toNat,.string x.text,.bool x.dead] 86)).alloc (by simp) (.cells #[.int .u8 v.pid.author.toNat,.int .u16 v.pid.seq.toNat,.int .u8 v.n.toNat] 27))
 unfold vertV vidV
 go_enter Tryz.func74,Tryz.ntmps74
 go_upto_region 1 with(fail)
 generalize hw0:(w.alloc (.cells #[.int .u8 x.id.pid.author.toNat,.int .u16 x.id.pid.seq.toNat,.int .u8 x.id.n.toNat,.int .u8 x.kind.toNat,.int .u8 x.file.pid.author.toNat,.int .u16 x.file.pid.seq.toNat,.int .u8 x.file.n.toNat,.string x.text,.bool x.dead] 86)).alloc (.cells #[.int .u8 v.pid.author.toNat,.int .u16 v.pid.seq.toNat,.int .u8 v.n.toNat] 27)=w0 at *
 clear hw0
 have c0:=HA.out.cell (j:=0) rfl
 have c1:=HA.out.cell (j:=1) rfl
 have c2:=HA.out.cell (j:=2) rfl
 have c3:=HA.out.cell (j:=3) rfl
 have c4:=HA.out.cell (j:=4) rfl
 have c5:=HA.out.cell (j:=5) rfl
 have c6:=HA.out.cell (j:=6) rfl
 have c7:=HA.out.cell (j:=7) rfl
 have c8:=HA.out.cell (j:=8) rfl
 have sc:=HA.out.lt
 have d0:=HC.out.cell (j:=0) rfl
 have d1:=HC.out.cell (j:=1) rfl
 have d2:=HC.out.cell (j:=2) rfl
 have sd:=HC.out.lt
 go_wp2_with fail
 refine(vcmpG x.id v _).mono ?_
 rintro e w1 ⟨rfl,hg⟩
 have HB1:=Lib.hid (below_over HB.out HB.out.size hg.below)
 clear hg
 go_wp2_with fail
 go_ret
 exact⟨rfl,HB1.out⟩
/-! ### where a vertex stands -/
theorem key_lt{l:List VertM}(hs:Rises vertKey l){a b:Nat}{x y:VertM}(ha:l[a]? = some x)(hb:l[b]? = some y)(h:packVid x.id<packVid y.id):a<b:=by
 obtain⟨h1,e1⟩:=List.getElem?_eq_some_iff.1 ha
 obtain⟨h2,e2⟩:=List.getElem?_eq_some_iff.1 hb
 rcases Nat.lt_trichotomy a b with q|q|q
 ·
  exact q
 ·
  subst q;rw [e1] at e2;subst e2;omega
 ·
  have:=List.pairwise_iff_getElem.1 hs b a h2 h1 q
  rw [e1,e2] at this
  unfold vertKey at this;omega
theorem key_ge{l:List VertM}(hs:Rises vertKey l){a b:Nat}{x y:VertM}(ha:l[a]? = some x)(hb:l[b]? = some y)(h:¬ packVid x.id<packVid y.id):b≤a:=by
 obtain⟨h1,e1⟩:=List.getElem?_eq_some_iff.1 ha
 obtain⟨h2,e2⟩:=List.getElem?_eq_some_iff.1 hb
 refine Nat.le_of_not_lt fun q=>h ?_
 have:=List.pairwise_iff_getElem.1 hs a b h1 h2 q
 rw [e1,e2] at this
 exact this
def BvRel(w0:World)(k0 n:Nat)(iv jv:Value)(wr:World):Prop:=∃ i j:Nat,iv=.int .i64 i∧jv=.int .i64 j∧i≤k0∧k0≤j∧j≤n∧Hid (Below w0.heap.size w0 wr)
set_option maxHeartbeats 8000000 in
set_option maxRecDepth 100000 in
theorem bsV_any(lv:Value)(l:List VertM)(v:VidM)(w:World)(hv:GRow encVert 9 w lv l)(hs:Rises vertKey l)(hm:v∈l.map (·.id))(hn:l.length≤1000000) :
  Calls Tryz.prog 73 #[lv,vidV v,.func (.func 74) #[] #[]] w fun e w'=>e=.returned (.tuple #[.int .i64 (placeM l v:Int),.bool true])∧Below w.heap.size w w':=by
 obtain⟨a,cap,rfl,h1,h2,hc⟩:=hv.at encVert_len
 unfold maxLen at h2
 have HC:=Lib.hid hc
 have HS:=Lib.hid hs
 obtain⟨y,hy,hyv⟩:=place_get hm
 obtain⟨k0,hk0⟩:∃ k0,placeM l v=k0:=⟨_,rfl⟩
 rw [hk0] at hy ⊢
 have hkl:=(List.getElem?_eq_some_iff.1 hy).1
 have HY:=Lib.hid hy
 have HYV:=Lib.hid hyv
 have HF:=Lib.hid (arr_new w #[.int .u8 v.pid.author.toNat,.int .u16 v.pid.seq.toNat,.int .u8 v.n.toNat] 27)
 have HB:=Lib.hid (below_new (w:=w) (.cells #[.int .u8 v.pid.author.toNat,.int .u16 v.pid.seq.toNat,.int .u8 v.n.toNat] 27))
 clear hv hc hs hm hy hyv hk0
 unfold vidV
 go_enter Tryz.func73,Tryz.ntmps73
 go_upto_region 1 with(fail)
 generalize hw0:w.alloc (.cells #[.int .u8 v.pid.author.toNat,.int .u16 v.pid.seq.toNat,.int .u8 v.n.toNat] 27)=w0 at *
 clear hw0
 go_wp2_with fail
 go_loopw [9,10] (fun v9 v10 wr=>BvRel w0 k0 l.length v9 v10 wr) (fun i j _=>(intOf j).toNat - (intOf i).toNat)
 case atStart=>exact⟨0,l.length,rfl,rfl,by omega,by omega,Nat.le_refl _,Below.refl _ _⟩
 case round =>
  obtain⟨i,j,rfl,rfl,hi,hj,hjl,hbl⟩:=hrel
  have HBr:=Lib.hid (below_over HB.out HB.out.size hbl.out)
  have HFr:=Lib.hid (HF.out.over hbl.out)
  have f0:=HFr.out.cell (j:=0) rfl
  have f1:=HFr.out.cell (j:=1) rfl
  have f2:=HFr.out.cell (j:=2) rfl
  have sf:=HFr.out.lt
  by_cases hlt:i<j
  ·
   obtain⟨q,hq⟩:∃ q,(i+j) / 2=q:=⟨_,rfl⟩
   have eq':((i:Int)+(j:Int)) / 2=(q:Int):=by omega
   have hiq:i≤q:=by omega
   have hqj:q<j:=by omega
   obtain⟨b,off,rfl,sb,hcb⟩:=HC.out.resolve_left (by omega)
   obtain⟨x,hx⟩:=get_of_lt (xs:=l) (i:=q) (by omega)
   have HX:=Lib.hid hx
   have HRx:=Lib.hid (hcb q x hx wr HBr.out)
   have x0:wr.cell? ⟨b,off+q*9,none⟩=some (.int .u8 x.id.pid.author.toNat):=(HRx.out).2 0 _ rfl
   have x1:wr.cell? ⟨b,off+q*9+1,none⟩=some (.int .u16 x.id.pid.seq.toNat):=(HRx.out).2 1 _ rfl
   have x2:wr.cell? ⟨b,off+q*9+2,none⟩=some (.int .u8 x.id.n.toNat):=(HRx.out).2 2 _ rfl
   have x3:wr.cell? ⟨b,off+q*9+3,none⟩=some (.int .u8 x.kind.toNat):=(HRx.out).2 3 _ rfl
   have x4:wr.cell? ⟨b,off+q*9+4,none⟩=some (.int .u8 x.file.pid.author.toNat):=(HRx.out).2 4 _ rfl
   have x5:wr.cell? ⟨b,off+q*9+5,none⟩=some (.int .u16 x.file.pid.seq.toNat):=(HRx.out).2 5 _ rfl
   have x6:wr.cell? ⟨b,off+q*9+6,none⟩=some (.int .u8 x.file.n.toNat):=(HRx.out).2 6 _ rfl
   have x7:wr.cell? ⟨b,off+q*9+7,none⟩=some (.string x.text):=(HRx.out).2 7 _ rfl
   have x8:wr.cell? ⟨b,off+q*9+8,none⟩=some (.bool x.dead):=(HRx.out).2 8 _ rfl
   have sx:=HRx.out.1
   clear hcb hx hq
   by_cases hp:packVid x.id<packVid v
   ·
    have HE:=Lib.hid (cmpVid_lt1 hp)
    have hqk:q<k0:=key_lt HS.out HX.out HY.out (by rw [HYV.out];exact hp)
    clear hp
    go_wp2_with fail
    have hcur:Below wr.heap.size wr wr.drew:=(Below.refl _ _).drew
    refine wp_region_lex (C:=IsOver wr) 8 [] (by kernel_rfl) (by kernel_rfl) (isOver_of hcur) ?_
    simp only [List.take_succ_cons,List.take_zero,List.drop_succ_cons,List.drop_zero]
    repeat(first|(refine lex_skip rfl rfl ?_;simp only [Act.put,List.setIfInBounds_toArray,List.set_cons_succ,List.set_cons_zero])|(refine lex_one rfl ?_;go_big_quiet_step (fail);refine wpQuiet_nil ?_)|(refine lex_loud rfl ?_;go_wp2_with (first|(go_at_call 74;(with_reducible refine(lcmp_any x v _).mono ?_);rintro e w' ⟨rfl,hb⟩;rw [HE.out];replace hcur:=below_over hcur hcur.size hb;clear hb));refine⟨isOver_of hcur,?_⟩))
    refine lex_end ?_
    have HB4:=Lib.hid (below_over hbl.out hbl.out.size hcur)
    clear hcur
    go_wp2_with fail
    go_roundw
    case rel=>exact⟨q+1,j,by go_num,rfl,hqk,hj,hjl,HB4⟩
    case measure=>simp [intOf];omega
   ·
    have HE:=Lib.hid (cmpVid_nlt1 hp)
    have hqk:k0≤q:=key_ge HS.out HX.out HY.out (by rw [HYV.out];exact hp)
    have hnn:=HE.out
    clear hp
    go_wp2_with fail
    have hcur:Below wr.heap.size wr wr.drew:=(Below.refl _ _).drew
    refine wp_region_lex (C:=IsOver wr) 8 [] (by kernel_rfl) (by kernel_rfl) (isOver_of hcur) ?_
    simp only [List.take_succ_cons,List.take_zero,List.drop_succ_cons,List.drop_zero]
    repeat(first|(refine lex_skip rfl rfl ?_;simp only [Act.put,List.setIfInBounds_toArray,List.set_cons_succ,List.set_cons_zero])|(refine lex_one rfl ?_;go_big_quiet_step (fail);refine wpQuiet_nil ?_)|(refine lex_loud rfl ?_;go_wp2_with (first|(go_at_call 74;(with_reducible refine(lcmp_any x v _).mono ?_);rintro e w' ⟨rfl,hb⟩;replace hcur:=below_over hcur hcur.size hb;clear hb));refine⟨isOver_of hcur,?_⟩))
    refine lex_end ?_
    have HB4:=Lib.hid (below_over hbl.out hbl.out.size hcur)
    clear hcur
    go_wp2_with fail
    go_roundw
    case rel=>exact⟨i,q,rfl,rfl,hi,hqk,by omega,HB4⟩
    case measure=>simp [intOf];omega
  ·
   obtain rfl:k0=i:=by omega
   obtain rfl:j=k0:=by omega
   obtain⟨b,off,rfl,sb,hcb⟩:=HC.out.resolve_left (by omega)
   have HRx:=Lib.hid (hcb j y HY.out wr HBr.out)
   have x0:wr.cell? ⟨b,off+j*9,none⟩=some (.int .u8 y.id.pid.author.toNat):=(HRx.out).2 0 _ rfl
   have x1:wr.cell? ⟨b,off+j*9+1,none⟩=some (.int .u16 y.id.pid.seq.toNat):=(HRx.out).2 1 _ rfl
   have x2:wr.cell? ⟨b,off+j*9+2,none⟩=some (.int .u8 y.id.n.toNat):=(HRx.out).2 2 _ rfl
   have x3:wr.cell? ⟨b,off+j*9+3,none⟩=some (.int .u8 y.kind.toNat):=(HRx.out).2 3 _ rfl
   have x4:wr.cell? ⟨b,off+j*9+4,none⟩=some (.int .u8 y.file.pid.author.toNat):=(HRx.out).2 4 _ rfl
   have x5:wr.cell? ⟨b,off+j*9+5,none⟩=some (.int .u16 y.file.pid.seq.toNat):=(HRx.out).2 5 _ rfl
   have x6:wr.cell? ⟨b,off+j*9+6,none⟩=some (.int .u8 y.file.n.toNat):=(HRx.out).2 6 _ rfl
   have x7:wr.cell? ⟨b,off+j*9+7,none⟩=some (.string y.text):=(HRx.out).2 7 _ rfl
   have x8:wr.cell? ⟨b,off+j*9+8,none⟩=some (.bool y.dead):=(HRx.out).2 8 _ rfl
   have sx:=HRx.out.1
   have HE:Hid (cmpVid y.id v=0):=by show _=_;rw [HYV.out];exact cmpVid_same1 v
   have d1:decide ((j:Int)<(l.length:Int))=true:=by simp;omega
   have d2:decide (j<l.length)=true:=by simp [hkl]
   clear hcb
   go_wp2_with fail
   have hcur:Below wr.heap.size wr wr.drew:=(Below.refl _ _).drew
   refine wp_region_lex (C:=IsOver wr) 16 [] (by kernel_rfl) (by kernel_rfl) (isOver_of hcur) ?_
   simp only [List.take_succ_cons,List.take_zero,List.drop_succ_cons,List.drop_zero]
   repeat(first|(refine lex_skip rfl rfl ?_;simp only [Act.put,List.setIfInBounds_toArray,List.set_cons_succ,List.set_cons_zero])|(refine lex_one rfl ?_;go_big_quiet_step (fail);refine wpQuiet_nil ?_)|(refine lex_loud rfl ?_;go_wp2_with (first|(go_at_call 74;(with_reducible refine(lcmp_any y v _).mono ?_);rintro e w' ⟨rfl,hb⟩;rw [HE.out];replace hcur:=below_over hcur hcur.size hb;clear hb));refine⟨isOver_of hcur,?_⟩))
   refine lex_end ?_
   have HB4:=Lib.hid (below_over hbl.out hbl.out.size hcur)
   clear hcur
   go_wp2_with fail
   go_ret2
   exact⟨rfl,below_over HB.out HB.out.size HB4.out⟩
set_option maxHeartbeats 8000000 in
set_option maxRecDepth 100000 in
/-- where a line stands, as lines.Of asks -/
theorem lat_any(v:VidM)(c s:Nat)(lp:Option Addr)(lc:Nat)(u1 u2:Value)(l:List VertM)(w:World)(hC:Arr w c [.pointer (some ⟨s,0,none⟩)])(hS:Arr w s [.slice lp l.length lc,u1,u2])(hv:GRow encVert 9 w (.slice lp l.length lc) l)
  (hs:Rises vertKey l) (hm:v∈l.map (·.id)) (hn:l.length≤1000000) :
  Calls Tryz.prog 72 #[vidV v,.pointer (some ⟨c,0,none⟩)] w fun e w'=>e=.returned (.int .i64 (placeM l v:Int))∧Below w.heap.size w w':=by
 have HF:=Lib.hid (arr_new w #[.int .u8 v.pid.author.toNat,.int .u16 v.pid.seq.toNat,.int .u8 v.n.toNat] 27)
 have HB:=Lib.hid (below_new (w:=w) (.cells #[.int .u8 v.pid.author.toNat,.int .u16 v.pid.seq.toNat,.int .u8 v.n.toNat] 27))
 have HC:=Lib.hid (hC.alloc (.cells #[.int .u8 v.pid.author.toNat,.int .u16 v.pid.seq.toNat,.int .u8 v.n.toNat] 27))
 have HS:=Lib.hid (hS.alloc (.cells #[.int .u8 v.pid.author.toNat,.int .u16 v.pid.seq.toNat,.int .u8 v.n.toNat] 27))
 have HV:=Lib.hid (hv.over (below_new (w:=w) (.cells #[.int .u8 v.pid.author.toNat,.int .u16 v.pid.seq.toNat,.int .u8 v.n.toNat] 27)))
 have HR:=Lib.hid (And.intro hs hm)
 clear hC hS hv hs hm
 unfold vidV
 go_enter Tryz.func72,Tryz.ntmps72
 go_upto_region 1 with(fail)
 generalize hw0:w.alloc (.cells #[.int .u8 v.pid.author.toNat,.int .u16 v.pid.seq.toNat,.int .u8 v.n.toNat] 27)=w0 at *
 clear hw0
 have f0:=HF.out.cell (j:=0) rfl
 have f1:=HF.out.cell (j:=1) rfl
 have f2:=HF.out.cell (j:=2) rfl
 have sf:=HF.out.lt
 have c0:=HC.out.cell (j:=0) rfl
 have sc:=HC.out.lt
 have s0:=HS.out.cell (j:=0) rfl
 have ss:=HS.out.lt
 have hcur:Below w0.heap.size w0 w0.drew:=(Below.refl _ _).drew
 refine wp_region_lex (C:=IsOver w0) 11 [] (by kernel_rfl) (by kernel_rfl) (isOver_of hcur) ?_
 simp only [List.take_succ_cons,List.take_zero,List.drop_succ_cons,List.drop_zero]
 repeat(first|(refine lex_skip rfl rfl ?_;simp only [Act.put,List.setIfInBounds_toArray,List.set_cons_succ,List.set_cons_zero])|(refine lex_one rfl ?_;go_big_quiet_step (fail);refine wpQuiet_nil ?_)|(refine lex_loud rfl ?_;go_wp2_with (first|(go_at_call 73;(with_reducible refine(bsV_any _ l v _ (HV.out.over hcur) HR.out.1 HR.out.2 hn).mono ?_);rintro e w' ⟨rfl,hb⟩;replace hcur:=below_over hcur hcur.size hb;clear hb));refine⟨isOver_of hcur,?_⟩))
 refine lex_end ?_
 have HB4:=Lib.hid (below_over HB.out HB.out.size hcur)
 clear hcur
 go_wp2_with fail
 go_ret
 exact⟨rfl,HB4.out⟩
end Go.Proofs.YtanfebljiblhbaaGreatDoor
