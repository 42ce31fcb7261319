/- The reference's sheets: contracts of ref21.place, Order, Alive, Firm. Contracts of slices.IndexFunc and DeleteFunc at vertices, names.Of. Contract of edit.Ops. A sheet that may be nobody: nil, which has no lines. -/
import Derived.Test.YtllcipobiengiaaGreatYEdB
set_option linter.unusedVariables false
set_option linter.unusedSimpArgs false
namespace Go.Proofs.YtllcipobiengiaaGreat
open Go Go.RowKit

theorem place_is:∀ {l:List VertM} {v:VidM} {k:Nat} {x:VertM},l[k]? = some x→x.id=v→(∀ j y,j<k→l[j]? = some y→y.id≠v)→placeM l v=k
 | [],_,k,_,hx,_,_=>by simp at hx
 | y :: l,v,0,x,hx,hid,_=>by
  simp at hx;subst hx
  unfold placeM;rw [List.map_cons,hid,List.idxOf_cons_self]
 | y :: l,v,k+1,x,hx,hid,hno=>by
  have h0:y.id≠v:=hno 0 y (by omega) rfl
  have ih:=place_is (l:=l) (v:=v) (k:=k) (x:=x) (by simpa using hx) hid (fun j z hj hz=>hno (j+1) z (by omega) (by simpa using hz))
  unfold placeM at ih ⊢
  rw [List.map_cons,List.idxOf_cons,ih,show(y.id == v)=false from decide_eq_false h0];rfl
theorem no_step{l:List VertM}{v:VidM}{k:Nat}{x:VertM}(hx:l[k]? = some x)(hne:¬ x.id=v)(hno:∀ j y,j<k→l[j]? = some y→y.id≠v):∀ j y,j<k+1→l[j]? = some y→y.id≠v:=fun j y hj hy=>by
 rcases Nat.lt_or_ge j k with h|h
 ·
  exact hno j y h hy
 ·
  obtain rfl:j=k:=by omega
  rw [hx] at hy;cases hy;exact hne
set_option maxHeartbeats 8000000 in
set_option maxRecDepth 100000 in
theorem r21place_any(lv:Value)(l:List VertM)(v:VidM)(w:World)(hv:GRow encVert 9 w lv l)(hm:v∈l.map (·.id)) :
  Calls Tryz.prog 60 #[lv,vidV v] w fun e w'=>e=.returned (.int .i64 (placeM l v:Int))∧Below w.heap.size w w':=by
 have gd:=fun p q xs ys w=>guard_vid .eql p q xs ys w
 obtain⟨a,cap,rfl,h1,h2,hc⟩:=hv.at encVert_len
 unfold maxLen at h2
 have HC:=Lh hc
 have HM:=Lh (place_get hm)
 have HF:=Lh (anw w #[.int .u8 v.pid.author.toNat,.int .u16 v.pid.seq.toNat,.int .u8 v.n.toNat] 40)
 have HB:=Lh (bnew (w:=w) (.cells #[.int .u8 v.pid.author.toNat,.int .u16 v.pid.seq.toNat,.int .u8 v.n.toNat] 40))
 clear hv hc hm
 unfold vidV
 go_enter Tryz.func60,Tryz.ntmps60
 go_upto_region 1 with(fail)
 generalize hw0:w.alloc (.cells #[.int .u8 v.pid.author.toNat,.int .u16 v.pid.seq.toNat,.int .u8 v.n.toNat] 40)=w0 at *
 clear hw0
 go_wp2_with fail
 go_loopw [5] (fun v5 wr=>∃ k:Nat,k≤l.length∧v5=.int .i64 k∧Hid (∀ j y,j<k→l[j]? = some y→y.id≠v)∧Hid (Below w0.heap.size w0 wr)) (fun v5 _=>l.length - (intOf v5).toNat)
 case atStart=>exact⟨0,by omega,rfl,Lh (fun j y hj=>absurd hj (Nat.not_lt_zero j)),Below.refl _ _⟩
 case round =>
  obtain⟨k,hk,rfl,HN,hbl⟩:=hrel
  rename World=>wr
  have HBr:=Lh (bov HB.out HB.out.size hbl.out)
  have HFr:=Lh (HF.out.over hbl.out)
  have f0:=HFr.out.k 0 rfl
  have f1:=HFr.out.k 1 rfl
  have f2:=HFr.out.k 2 rfl
  have sf:=HFr.out.lt
  by_cases hlt:k<l.length
  ·
   obtain⟨b,off,rfl,sb,hcb⟩:=HC.out.resolve_left (by omega)
   obtain⟨x,hx⟩:=gol hlt
   have HX:=Lh hx
   have HRx:=Lh (hcb k x hx wr HBr.out)
   have x0:wr.cell? ⟨b,off+k*9,none⟩=some (.int .u8 x.id.pid.author.toNat):=(HRx.out).2 0 _ rfl
   have x1:wr.cell? ⟨b,off+k*9+1,none⟩=some (.int .u16 x.id.pid.seq.toNat):=(HRx.out).2 1 _ rfl
   have x2:wr.cell? ⟨b,off+k*9+2,none⟩=some (.int .u8 x.id.n.toNat):=(HRx.out).2 2 _ rfl
   have x3:wr.cell? ⟨b,off+k*9+3,none⟩=some (.int .u8 x.kind.toNat):=(HRx.out).2 3 _ rfl
   have x4:wr.cell? ⟨b,off+k*9+4,none⟩=some (.int .u8 x.file.pid.author.toNat):=(HRx.out).2 4 _ rfl
   have x5:wr.cell? ⟨b,off+k*9+5,none⟩=some (.int .u16 x.file.pid.seq.toNat):=(HRx.out).2 5 _ rfl
   have x6:wr.cell? ⟨b,off+k*9+6,none⟩=some (.int .u8 x.file.n.toNat):=(HRx.out).2 6 _ rfl
   have x7:wr.cell? ⟨b,off+k*9+7,none⟩=some (.string x.text):=(HRx.out).2 7 _ rfl
   have x8:wr.cell? ⟨b,off+k*9+8,none⟩=some (.bool x.dead):=(HRx.out).2 8 _ rfl
   have sx:=HRx.out.1
   clear hcb hx
   by_cases he:x.id=v
   ·
    have e1:=eql_vid x.id v true (by simp [he])
    unfold vidV at e1
    have HV:=Lh (place_is HX.out he HN.out)
    clear he
    go_wp2_with fail
    have hcur:Below wr.heap.size wr wr.drew:=(Below.refl _ _).drew
    refine wlex (C:=IsOver wr) 7 [] (by kernel_rfl) (by kernel_rfl) (iov hcur) ?_
    simp only [Tsc,Tz,Dsc,Dz]
    repeat(first|(refine lxs rfl rfl ?_;simp only [Act.put,Sib,Scs,Scz])|(refine lxo rfl ?_;go_big_quiet_step (fail);refine wpQuiet_nil ?_)|(refine lxl rfl ?_;go_wp2_with (first|(fail));refine⟨iov hcur,?_⟩))
    refine lxe ?_
    clear hcur
    go_wp2_with fail
    go_ret
    exact⟨ret_int (by rw [HV.out]),HBr.out.drew⟩
   ·
    have e1:=eql_vid x.id v false (by simp [he])
    unfold vidV at e1
    have HN2:=Lh (no_step HX.out he HN.out)
    clear he
    go_wp2_with fail
    have hcur:Below wr.heap.size wr wr.drew:=(Below.refl _ _).drew
    refine wlex (C:=IsOver wr) 7 [] (by kernel_rfl) (by kernel_rfl) (iov hcur) ?_
    simp only [Tsc,Tz,Dsc,Dz]
    repeat(first|(refine lxs rfl rfl ?_;simp only [Act.put,Sib,Scs,Scz])|(refine lxo rfl ?_;go_big_quiet_step (fail);refine wpQuiet_nil ?_)|(refine lxl rfl ?_;go_wp2_with (first|(fail));refine⟨iov hcur,?_⟩))
    refine lxe ?_
    clear hcur
    go_wp2_with fail
    go_roundw
    case rel=>exact⟨k+1,hlt,by go_num,HN2,Lh hbl.out.drew⟩
    case measure=>simp [intOf];omega
  ·
   obtain⟨y,hy,hyv⟩:=HM.out
   exact absurd hyv (HN.out (placeM l v) y (Nat.lt_of_lt_of_le (List.getElem?_eq_some_iff.1 hy).1 (by omega)) hy)

abbrev rsV(lv:Value)(n:Nat)(sv:Value):Value:=.agg #[lv,.int .i64 n,sv]
structure RSh (w:World) (lv sv:Value) (l:List VertM) (R:List (Nat × Nat)):Prop where
 row:GRow encVert 9 w lv l
 rel:RRel w l.length sv R
theorem RSh.over{w w':World}{lv sv:Value}{l:List VertM}{R:List (Nat × Nat)}(h:RSh w lv sv l R)(hb:Below w.heap.size w w'):RSh w' lv sv l R:=⟨h.row.over hb,h.rel.over hb⟩
theorem RSh.form{w:World}{lv sv:Value}{l:List VertM}{R:List (Nat × Nat)}(h:RSh w lv sv l R):∃ lp lc sp sc,lv=.slice lp l.length lc∧sv=.slice sp R.length sc∧lc≤maxLen:=by
 obtain⟨a,cap,e1,_,h3,_⟩:=h.row.at encVert_len
 obtain⟨a2,cap2,e2,_⟩:=prow_at h.rel.row
 exact⟨a,cap,a2,cap2,e1,e2,h3⟩
attribute [local irreducible] orderM keptI aliveQL deadQL aliveX firmB
set_option maxHeartbeats 8000000 in
set_option maxRecDepth 100000 in
theorem r21order_any(lv sv:Value)(l:List VertM)(R:List (Nat × Nat))(w:World)(h:RSh w lv sv l R):Calls Tryz.prog 103 #[rsV lv l.length sv] w (OwnRes encI 1 3 w (orderM R l.length)):=by
 obtain⟨lp,lc,sp,sc,rfl,rfl,hlc⟩:=h.form
 unfold maxLen at hlc
 have HS:=Lh (h.over (bnew (w:=w) (.cells #[.slice lp l.length lc,.int .i64 l.length,.slice sp R.length sc] 52)))
 have HG:=Lh (anw w #[.slice lp l.length lc,.int .i64 l.length,.slice sp R.length sc] 52)
 have HB:=Lh (bnew (w:=w) (.cells #[.slice lp l.length lc,.int .i64 l.length,.slice sp R.length sc] 52))
 clear h
 unfold rsV
 go_enter Tryz.func103,Tryz.ntmps103
 go_upto_region 1 with(fail)
 generalize hw0:w.alloc (.cells #[.slice lp l.length lc,.int .i64 l.length,.slice sp R.length sc] 52)=w0 at *
 clear hw0
 have g0:=HG.out.k 0 rfl
 have g1:=HG.out.k 1 rfl
 have g2:=HG.out.k 2 rfl
 have sg:=HG.out.lt
 go_wp2_with fail
 refine(r9order_any l.length _ R _ HS.out.rel).mono ?_
 rintro e w1 ⟨v,rfl,ho,hb⟩
 have HO:=Lh (ho.base HB.out.size)
 have HB1:=Lh (bov HB.out HB.out.size hb)
 clear ho hb
 go_wp2_with fail
 go_ret
 exact⟨_,rfl,HO.out,HB1.out⟩
def AvRel(w1:World)(l:List VertM)(od:List Nat)(v3 v5:Value)(wr:World):Prop:=∃ k:Nat,k≤od.length∧v5=.int .i64 k∧Hid (GOwn encI 1 3 wr w1.heap.size v3 (keptI l od k))∧Hid (Below w1.heap.size w1 wr)
theorem keptI_zero(l:List VertM)(xs:List Nat):keptI l xs 0=[]:=by unfold keptI;rfl
theorem keptI_len(l:List VertM)(xs:List Nat)(k:Nat):(keptI l xs k).length≤xs.length:=by
 unfold keptI
 refine Nat.le_trans (List.length_filter_le _ _) ?_
 rw [List.length_take];exact Nat.min_le_right _ _
theorem aliveX_kept(l:List VertM)(R:List (Nat × Nat)):keptI l (orderM R l.length) (orderM R l.length).length=aliveX l R:=by unfold aliveX;exact keptI_all l _
set_option maxHeartbeats 8000000 in
set_option maxRecDepth 100000 in
theorem r21alive_any(lv sv:Value)(l:List VertM)(R:List (Nat × Nat))(w:World)(h:RSh w lv sv l R):Calls Tryz.prog 53 #[rsV lv l.length sv] w (OwnRes encI 1 3 w (aliveX l R)):=by
 have hroom:=h.rel.room
 obtain⟨lp,lc,sp,sc,rfl,rfl,hlc⟩:=h.form
 unfold maxLen at hlc
 have HS:=Lh (h.over (bnew (w:=w) (.cells #[.slice lp l.length lc,.int .i64 l.length,.slice sp R.length sc] 52)))
 have HG:=Lh (anw w #[.slice lp l.length lc,.int .i64 l.length,.slice sp R.length sc] 52)
 have HB:=Lh (bnew (w:=w) (.cells #[.slice lp l.length lc,.int .i64 l.length,.slice sp R.length sc] 52))
 clear h
 unfold rsV
 go_enter Tryz.func53,Tryz.ntmps53
 go_upto_region 1 with(fail)
 generalize hw0:w.alloc (.cells #[.slice lp l.length lc,.int .i64 l.length,.slice sp R.length sc] 52)=w0 at *
 clear hw0
 have g0:=HG.out.k 0 rfl
 have g1:=HG.out.k 1 rfl
 have g2:=HG.out.k 2 rfl
 have sg:=HG.out.lt
 go_wp2_with fail
 refine(r21order_any _ _ l R _ HS.out).mono ?_
 rintro e w1 ⟨ov,rfl,ho,hb⟩
 obtain⟨a5,c5,rfl,z1,z2,hc5⟩:=irow_at ho.row
 unfold maxLen at z2
 have HC5:=Lh hc5
 have HB1:=Lh hb
 have HG1:=Lh (HG.out.over hb)
 have HS1:=Lh (HS.out.over hb)
 have HOl:Hid (∀ i∈orderM R l.length,i<l.length):=fun i hi=>order_lt hi
 have HAK:=Lh (aliveX_kept l R)
 have hol:(orderM R l.length).length≤1000000:=by rw [orderM_len];omega
 generalize orderM R l.length=od at *
 clear ho hb hc5 g0 g1 g2 sg
 go_wp2_with fail
 go_loopw [3,5] (fun v3 v5 wr=>AvRel w1 l od v3 v5 wr) (fun _ v5 _=>od.length - (intOf v5).toNat)
 case atStart=>exact⟨0,by omega,rfl,Lh (by rw [keptI_zero];exact gown_nil _ _),Below.refl _ _⟩
 case round =>
  obtain⟨k,hk,rfl,HM,hbl⟩:=hrel
  rename World=>wr
  have HGr:=Lh (HG1.out.over hbl.out)
  have g0:=HGr.out.k 0 rfl
  have g1:=HGr.out.k 1 rfl
  have g2:=HGr.out.k 2 rfl
  have sg:=HGr.out.lt
  have hkl:=keptI_len l od k
  by_cases hlt:k<od.length
  ·
   obtain⟨b5,off5,rfl,sb5,hcb5⟩:=HC5.out.resolve_left (by omega)
   obtain⟨i,hi⟩:=gol hlt
   obtain⟨si,i0⟩:=hcb5 k i hi _ hbl.out
   have hil:=HOl.out i (List.mem_of_getElem? hi)
   obtain⟨x,hx⟩:=gol hil
   obtain⟨a7,c7,e7,y1,y2,hc7⟩:=(HS1.out.over hbl.out).row.at encVert_len
   cases e7
   obtain⟨b7,off7,rfl,sb7,hcb7⟩:=hc7.resolve_left (by omega)
   have x8:wr.cell? ⟨b7,off7+i*9+8,none⟩=some (.bool x.dead):=(hcb7 i x hx wr (Below.refl _ _)).2 8 _ rfl
   have HI:=Lh hi
   have HX:=Lh (deadQL_at hx)
   clear hcb5 hi hx hc7 hcb7
   cases hd:x.dead with
   | true =>
    have HN:=Lh (keptI_no HI.out (HX.out.trans hd))
    rw [hd] at x8
    clear hd
    go_wp2_with fail
    have hcur:Below wr.heap.size wr wr.drew:=(Below.refl _ _).drew
    refine wlex (C:=IsOver wr) 10 [] (by kernel_rfl) (by kernel_rfl) (iov hcur) ?_
    simp only [Tsc,Tz,Dsc,Dz]
    repeat(first|(refine lxs rfl rfl ?_;simp only [Act.put,Sib,Scs,Scz])|(refine lxo rfl ?_;go_big_quiet_step (fail);refine wpQuiet_nil ?_)|(refine lxl rfl ?_;go_wp2_with (first|(fail));refine⟨iov hcur,?_⟩))
    refine lxe ?_
    clear hcur
    go_wp2_with fail
    go_roundw
    case rel=>exact⟨k+1,hlt,by go_num,(by show GOwn _ _ _ _ _ _ _;rw [HN.out];exact HM.out.over (Below.refl _ _).drew),Lh hbl.out.drew⟩
    case measure=>simp [intOf];omega
   | false =>
    have HN:=Lh (keptI_yes HI.out (HX.out.trans hd))
    rw [hd] at x8
    have hN:(keptI l od k).length+1≤1099511627776:=by omega
    have hB:=hbl.out.size
    clear hd
    go_wp2_with fail
    have hcur:Below wr.heap.size wr wr.drew:=(Below.refl _ _).drew
    refine wlex (C:=IsOver wr) 10 [] (by kernel_rfl) (by kernel_rfl) (iov hcur) ?_
    simp only [Tsc,Tz,Dsc,Dz]
    repeat(first|(refine lxs rfl rfl ?_;simp only [Act.put,Sib,Scs,Scz])|(refine lxo rfl ?_;go_big_quiet_step (fail);refine wpQuiet_nil ?_)|(refine lxl rfl ?_;go_wp2_with (first|(fail));refine⟨iov hcur,?_⟩))
    refine lxe ?_
    clear hcur
    go_wp2_with (at_builtin;refine apD slIntI rfl _ _ rfl w1.heap.size _ _ (dad _ _ _) 1 _ _ _ HM.out rfl rfl rfl rfl hN (by decide) hB ?_;intro v9 w9 ho9 hg9)
    go_roundw
    case rel=>exact⟨k+1,hlt,by go_num,(by show GOwn _ _ _ _ _ _ _;rw [HN.out];exact GOwn.snoc ho9),bgr hbl.out hB HM.out hg9⟩
    case measure=>simp [intOf];omega
  ·
   obtain rfl:k=od.length:=by omega
   have HE:=HM.out
   rw [HAK.out] at HE
   have HE2:=Lh (HE.base (Nat.le_trans HB.out.size HB1.out.size))
   clear HE
   go_wp2_with fail
   go_ret
   exact⟨_,rfl,HE2.out,bov HB.out HB.out.size (bov HB1.out HB1.out.size hbl.out)⟩
end Go.Proofs.YtllcipobiengiaaGreat
namespace Go.Proofs.YtllcipobiengiaaGreat
open Go Go.RowKit

section
variable {P : Program} {ty : TypeId} {size : Nat} {w : World} {ops : Array Oper} {rest : List Oper} {o : Oper} {a : Act} {Q : Exit → Act → World → Prop}
end
attribute [local irreducible] idxB
theorem ofM_len(L:List PatchM)(f:VidM)(k:UInt8):(ofM L f k).length≤(idsM L).length:=Nat.le_trans (List.length_filter_le _ _) (by unfold vertsM;rw [List.length_map];exact Nat.le_refl _)
attribute [local irreducible] ofM aliveM namesM idsM
end Go.Proofs.YtllcipobiengiaaGreat
namespace Go.Proofs.YtllcipobiengiaaGreat
open Go Go.RowKit

def atL(at':List VidM)(j m:Nat):List VidM:=at'++List.replicate (m - j) noVid
section
variable {P : Program} {ty : TypeId} {size : Nat} {w : World} {ops : Array Oper} {rest : List Oper} {o : Oper} {a : Act} {Q : Exit → Act → World → Prop}
end
theorem slVidE:SlT Tryz.prog 37 40 3 6:=slT_of Tryz.underlying37 (by kernel_rfl) (by decide)
attribute [local irreducible] keptV1 textAt aliveX atL
end Go.Proofs.YtllcipobiengiaaGreat
namespace Go.Proofs.YtllcipobiengiaaGreat
open Go Go.RowKit

def ShV(w:World)(s:Option Addr)(l:List VertM)(R:List (Nat × Nat)):Prop:=(∃ b,s=some ⟨b,0,none⟩∧ShAt w b l R)∨(s=none∧l=[]∧R=[])
theorem ShV.over{w w':World}{s:Option Addr}{l:List VertM}{R:List (Nat × Nat)}(h:ShV w s l R)(hb:Below w.heap.size w w'):ShV w' s l R:=
 h.imp (fun⟨b,e,h⟩=>⟨b,e,h.over hb⟩) id
set_option maxRecDepth 100000 in
theorem sorderN_any(w:World):Calls Tryz.prog 79 #[.pointer none] w fun e w'=>e=.returned (.slice none 0 0)∧w'=w:=by
 go_enter Tryz.func79,Tryz.ntmps79
 go_wp2_with fail
 go_ret
 exact⟨rfl,rfl⟩
set_option maxRecDepth 100000 in
theorem idxN_any(f:Value)(w:World):Calls Tryz.prog 124 #[.slice none 0 0,f] w fun e w'=>e=.returned (.int .i64 (-1))∧w'=w:=by
 go_enter Tryz.func124,Tryz.ntmps124
 go_wp2_with fail
 go_loopw [8] (fun v8 wr=>v8=.int .i64 0∧wr=w) (fun v8 _=>0)
 case atStart=>exact⟨rfl,rfl⟩
 case round =>
  obtain⟨rfl,hw⟩:=hrel
  obtain rfl:=hw
  go_wp2_with fail
  go_ret
  exact⟨rfl,rfl⟩
set_option maxRecDepth 100000 in
theorem delN_any(f:Value)(w:World):Calls Tryz.prog 78 #[.slice none 0 0,f] w fun e w'=>e=.returned (.slice none 0 0)∧w'=w:=by
 go_enter Tryz.func78,Tryz.ntmps78
 go_wp2_with fail
 refine(idxN_any _ _).mono ?_
 rintro e w1 ⟨rfl,hw⟩
 obtain rfl:=hw.symm
 go_wp2_with fail
 go_ret
 exact⟨rfl,rfl⟩
set_option maxRecDepth 100000 in
theorem saliveN_any(w:World):Calls Tryz.prog 34 #[.pointer none] w fun e w'=>e=.returned (.slice none 0 0)∧Below w.heap.size w w':=by
 have HC:=Lh (anw w #[.pointer none] 44)
 have HB:=Lh (bnew (w:=w) (.cells #[.pointer none] 44))
 go_enter Tryz.func34,Tryz.ntmps34
 go_upto_region 1 with(fail)
 generalize hw0:w.alloc (.cells #[.pointer none] 44)=w0 at *
 clear hw0
 have c0:=HC.out.k 0 rfl
 have sc:=HC.out.lt
 go_wp2_with fail
 refine(sorderN_any _).mono ?_
 rintro e w1 ⟨rfl,hw⟩
 obtain rfl:=hw.symm
 go_wp2_with fail
 refine(delN_any _ _).mono ?_
 rintro e w1 ⟨rfl,hw⟩
 obtain rfl:=hw.symm
 go_wp2_with fail
 go_ret
 exact⟨rfl,HB.out⟩
theorem svertV_any(s:Option Addr)(i:Nat)(x:VertM)(l:List VertM)(R:List (Nat × Nat))(w:World)(h:ShV w s l R)(hx:l[i]? = some x):Calls Tryz.prog 35 #[.pointer s,.int .i64 i] w (SvRes w x):=by
 rcases h with⟨b,rfl,h⟩|⟨rfl,rfl,rfl⟩
 ·
  exact svert_any b i x l R w h hx
 ·
  simp at hx
end Go.Proofs.YtllcipobiengiaaGreat
