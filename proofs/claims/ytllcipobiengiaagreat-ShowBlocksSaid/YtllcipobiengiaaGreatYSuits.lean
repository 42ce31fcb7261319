/- Contracts of patch.later, its closure, slices.ContainsFunc and IndexFunc there; slices.Equal at names. Contracts of patch.kind, suits. -/
import Derived.Test.YtllcipobiengiaaGreatYPDeps
set_option linter.unusedVariables false
set_option linter.unusedSimpArgs false
namespace Go.Proofs.YtllcipobiengiaaGreat
open Go Go.RowKit

def laterOne(id:PidM)(v:VidM):Bool:=decide (v.pid.author=id.author) && decide (id.seq.toNat<v.pid.seq.toNat)
theorem laterB_eq(id:PidM)(o:OpM):laterB id o=(refsM o).any (laterOne id):=rfl
set_option maxHeartbeats 1000000 in
set_option maxRecDepth 100000 in
theorem laterFn_any(id:PidM)(v:VidM)(g:Nat)(w:World)(hA:Arr w g (encPid id)) :
  Calls Tryz.prog 156 #[vidV v,.pointer (some ⟨g,0,none⟩)] w fun e w'=>e=.returned (.bool (laterOne id v))∧Below w.heap.size w w':=by
 have i0:=(hA.alloc (.cells #[.int .u8 v.pid.author.toNat,.int .u16 v.pid.seq.toNat,.int .u8 v.n.toNat] 40)).k 0 rfl
 have i1:=(hA.alloc (.cells #[.int .u8 v.pid.author.toNat,.int .u16 v.pid.seq.toNat,.int .u8 v.n.toNat] 40)).k 1 rfl
 have sg:=hA.lt
 have sg2:¬ g=w.heap.size:=by omega
 clear hA
 unfold vidV
 by_cases h1:v.pid.author=id.author
 ·
  have e1:((v.pid.author.toNat:Int) == (id.author.toNat:Int))=true:=by simp [h1]
  by_cases h2:id.seq.toNat<v.pid.seq.toNat
  ·
   have e2:decide (id.seq.toNat<v.pid.seq.toNat)=true:=by simpa using h2
   have HV:Hid (laterOne id v=true):=by show _=_;unfold laterOne;simp [h1,h2]
   clear h1 h2
   go_enter Tryz.func156,Tryz.ntmps156
   go_wp2_with fail
   go_ret
   exact⟨rvl (congrArg Value.bool HV.out.symm),bnew _⟩
  ·
   have e2:decide (id.seq.toNat<v.pid.seq.toNat)=false:=by simpa using h2
   have HV:Hid (laterOne id v=false):=by show _=_;unfold laterOne;simp [h1];omega
   clear h1 h2
   go_enter Tryz.func156,Tryz.ntmps156
   go_wp2_with fail
   go_ret
   exact⟨rvl (congrArg Value.bool HV.out.symm),bnew _⟩
 ·
  have e1:((v.pid.author.toNat:Int) == (id.author.toNat:Int))=false:=by
   simp;intro h;exact h1 (UInt8.toNat_inj.1 (by omega))
  have HV:Hid (laterOne id v=false):=by show _=_;unfold laterOne;simp [h1]
  clear h1
  go_enter Tryz.func156,Tryz.ntmps156
  go_wp2_with fail
  go_ret
  exact⟨rvl (congrArg Value.bool HV.out.symm),bnew _⟩
def idxB{α:Type}(f:α→Bool)(l:List α):Int:=match l.findIdx? f with|some i=>(i:Int)|none => -1
def IxRes(w:World)(f:VidM→Bool)(vs:List VidM)(e:Ending)(w':World):Prop:=e=.returned (.int .i64 (idxB f vs))∧Below w.heap.size w w'
theorem idx_hit{α:Type}{f:α→Bool}{l:List α}{k:Nat}{x:α}(h:(l.take k).any f=false)(hx:l[k]? = some x)(hf:f x=true):idxB f l=(k:Int):=by
 have:l.findIdx? f=some k:=by
  rw [List.findIdx?_eq_some_iff_getElem]
  obtain⟨hk,e⟩:=List.getElem?_eq_some_iff.1 hx
  refine⟨hk,by rw [e];exact hf,fun j hj => ?_⟩
  have:=List.any_eq_false.1 h (l[j]) (List.mem_iff_getElem.2 ⟨j,by rw [List.length_take];omega,by simp⟩)
  simpa using this
 unfold idxB;rw [this]
theorem idx_miss{α:Type}{f:α→Bool}{l:List α}(h:(l.take l.length).any f=false):idxB f l = -1:=by
 rw [List.take_length] at h
 have:l.findIdx? f=none:=by
  rw [List.findIdx?_eq_none_iff]
  intro x hx
  simpa using List.any_eq_false.1 h x hx
 unfold idxB;rw [this]
theorem any_step{α:Type}{f:α→Bool}{l:List α}{k:Nat}{x:α}(h:(l.take k).any f=false)(hx:l[k]? = some x)(hf:f x=false):(l.take (k+1)).any f=false:=by
 rw [tsg hx,List.any_append,h];simp [hf]
theorem idx_ge{α:Type}(f:α→Bool)(l:List α):decide (0≤idxB f l)=l.any f:=by
 unfold idxB
 cases h:l.findIdx? f with
 | none =>
  rw [List.findIdx?_eq_none_iff] at h
  have:l.any f=false:=List.any_eq_false.2 fun x hx=>by simp [h x hx]
  rw [this];rfl
 | some i =>
  rw [List.findIdx?_eq_some_iff_getElem] at h
  obtain⟨hk,hf,_⟩:=h
  have:l.any f=true:=List.any_eq_true.2 ⟨_,List.getElem_mem hk,hf⟩
  rw [this];simp
attribute [local irreducible] laterOne idxB
set_option maxHeartbeats 2000000 in
set_option maxRecDepth 100000 in
theorem idxLater_any(id:PidM)(v:Value)(vs:List VidM)(g:Nat)(w:World)(hA:Arr w g (encPid id))(hv:GRow encVid 3 w v vs)(hl:vs.length≤1000) :
  Calls Tryz.prog 183 #[v,.func (.func 156) #[] #[.pointer (some ⟨g,0,none⟩)]] w (IxRes w (laterOne id) vs):=by
 obtain⟨a,cap,rfl,h1,h2,hc⟩:=hv.at encVid_len
 unfold maxLen at h2
 have HC:=Lh hc
 have HA:=Lh hA
 clear hv hc hA
 go_enter Tryz.func183,Tryz.ntmps183
 go_wp2_with fail
 go_loopw [8] (fun v8 wr=>∃ k:Nat,k≤vs.length∧v8=.int .i64 k∧Hid ((vs.take k).any (laterOne id)=false)∧Below w.heap.size w wr) (fun v8 _=>vs.length - (intOf v8).toNat)
 case atStart=>exact⟨0,by omega,rfl,(by show _=_;simp),Below.refl _ _⟩
 case round =>
  obtain⟨k,hk,rfl,HK,hbl⟩:=hrel
  by_cases hlt:k<vs.length
  ·
   obtain⟨b,off,rfl,sb,hcb⟩:=HC.out.resolve_left (by omega)
   obtain⟨u,hu⟩:=gol hlt
   have HU:=Lh (hcb k u hu wr hbl)
   have u0:wr.cell? ⟨b,off+k*3,none⟩=some (.int .u8 u.pid.author.toNat):=(HU.out).2 0 _ rfl
   have u1:wr.cell? ⟨b,off+k*3+1,none⟩=some (.int .u16 u.pid.seq.toNat):=(HU.out).2 1 _ rfl
   have u2:wr.cell? ⟨b,off+k*3+2,none⟩=some (.int .u8 u.n.toNat):=(HU.out).2 2 _ rfl
   have su:=HU.out.1
   have HX:=Lh hu
   clear hcb hu
   go_wp2_with fail
   refine(laterFn_any id u g _ (HA.out.over hbl)).mono ?_
   rintro e w1 ⟨rfl,hb1⟩
   have HB1:=Lh (bov hbl hbl.size hb1)
   clear hb1 u0 u1 u2 su
   cases hf:laterOne id u with
   | true =>
    have HI:=Lh (idx_hit HK.out HX.out hf)
    clear hf
    go_wp2_with fail
    go_ret
    exact⟨ret_int HI.out.symm,HB1.out⟩
   | false =>
    have HI:=Lh (any_step HK.out HX.out hf)
    clear hf
    go_wp2_with fail
    go_roundw
    case rel=>exact⟨k+1,hlt,by go_num,HI,HB1.out⟩
    case measure=>simp [intOf];omega
  ·
   obtain rfl:k=vs.length:=by omega
   have HI:=Lh (idx_miss HK.out)
   go_wp2_with fail
   go_ret
   exact⟨ret_int HI.out.symm,hbl⟩
set_option maxHeartbeats 2000000 in
set_option maxRecDepth 100000 in
theorem conLater_any(id:PidM)(v:Value)(vs:List VidM)(g:Nat)(w:World)(hA:Arr w g (encPid id))(hv:GRow encVid 3 w v vs)(hl:vs.length≤1000) :
  Calls Tryz.prog 155 #[v,.func (.func 156) #[] #[.pointer (some ⟨g,0,none⟩)]] w fun e w'=>e=.returned (.bool (vs.any (laterOne id)))∧Below w.heap.size w w':=by
 have HI:=Lh (idx_ge (laterOne id) vs)
 have hcon:=idxLater_any id v vs g w hA hv hl
 unfold IxRes at hcon
 generalize idxB (laterOne id) vs=r at *
 generalize vs.any (laterOne id)=q at *
 clear hA hv
 go_enter Tryz.func155,Tryz.ntmps155
 go_wp2_with fail
 refine hcon.mono ?_
 rintro e w1 ⟨rfl,hb1⟩
 have HB:=Lh hb1
 clear hb1 hcon
 go_wp2_with fail
 go_ret
 exact⟨rvl (congrArg Value.bool HI.out),HB.out⟩
attribute [local irreducible] laterB refsM
set_option maxHeartbeats 2000000 in
set_option maxRecDepth 100000 in
theorem plater_any(id:PidM)(o:OpM)(w:World):Calls Tryz.prog 113 #[pidV id,opV o] w fun e w'=>e=.returned (.bool (laterB id o))∧Below w.heap.size w w':=by
 have HA:=Lh ((anw w #[.int .u8 id.author.toNat,.int .u16 id.seq.toNat] 26).alloc (.cells #[.int .u8 o.kind.toNat,.int .u8 o.at'.pid.author.toNat,.int .u16 o.at'.pid.seq.toNat,.int .u8 o.at'.n.toNat,.int .u8 o.to.pid.author.toNat,.int .u16 o.to.pid.seq.toNat,.int .u8 o.to.n.toNat,.string o.text] 58))
 have HB:=Lh ((bnew (w:=w) (.cells #[.int .u8 id.author.toNat,.int .u16 id.seq.toNat] 26)).alloc (by simp) (.cells #[.int .u8 o.kind.toNat,.int .u8 o.at'.pid.author.toNat,.int .u16 o.at'.pid.seq.toNat,.int .u8 o.at'.n.toNat,.int .u8 o.to.pid.author.toNat,.int .u16 o.to.pid.seq.toNat,.int .u8 o.to.n.toNat,.string o.text] 58))
 have hrl:=refs_len o
 have HL:=Lh (laterB_eq id o)
 unfold pidV opV
 go_enter Tryz.func113,Tryz.ntmps113
 go_wp2_with fail
 generalize hw0:(w.alloc (.cells #[.int .u8 id.author.toNat,.int .u16 id.seq.toNat] 26)).alloc (.cells #[.int .u8 o.kind.toNat,.int .u8 o.at'.pid.author.toNat,.int .u16 o.at'.pid.seq.toNat,.int .u8 o.at'.n.toNat,.int .u8 o.to.pid.author.toNat,.int .u16 o.to.pid.seq.toNat,.int .u8 o.to.n.toNat,.string o.text] 58)=w0 at *
 clear hw0
 refine(prefs_any o _).mono ?_
 rintro e w1 ⟨v1,rfl,hv1,hb1⟩
 have HV1:=Lh (RefsAt.vrow hv1)
 have HB1:=Lh hb1
 clear hv1 hb1
 go_wp2_with fail
 refine(conLater_any id v1 (refsM o) _ w1 (HA.out.over HB1.out) HV1.out (by omega)).mono ?_
 rintro e w2 ⟨rfl,hb2⟩
 rw [← HL.out]
 have HB2:=Lh hb2
 clear hb2
 go_wp2_with fail
 go_ret
 exact⟨rfl,bov HB.out HB.out.size (bov HB1.out HB1.out.size HB2.out)⟩

set_option maxHeartbeats 4000000 in
set_option maxRecDepth 100000 in
theorem equalPid_any(v u:Value)(l m:List PidM)(w:World)(hv:GRow encPid 2 w v l)(hu:GRow encPid 2 w u m) :
  Calls Tryz.prog 111 #[v,u] w fun e w'=>e=.returned (.bool (decide (l=m)))∧Below w.heap.size w w':=by
 obtain⟨a,cap,rfl,h1,h2,hc⟩:=hv.at encPid_len
 obtain⟨a',cap',rfl,h1',h2',hc'⟩:=hu.at encPid_len
 unfold maxLen at h2 h2'
 have HC:=Lh hc
 have HC':=Lh hc'
 clear hv hu hc hc'
 have gd:=fun p q xs ys w=>guard_pid .neq p q xs ys w
 by_cases hlen:l.length=m.length
 ·
  have HL:=Lh hlen
  have hq:((l.length:Int) != (m.length:Int))=false:=by simp [hlen]
  clear hlen
  go_enter Tryz.func111,Tryz.ntmps111
  go_wp2_with fail
  go_loopw [13] (fun i wr=>∃ k:Nat,k≤l.length∧i=.int .i64 k∧Hid (l.take k=m.take k)∧Below w.heap.size w wr) (fun i _=>l.length - (intOf i).toNat)
  case atStart=>exact⟨0,by omega,rfl,rfl,Below.refl _ _⟩
  case round =>
   obtain⟨k,hk,rfl,HK,hbl⟩:=hrel
   by_cases hlt:k<l.length
   ·
    obtain⟨bl,ol,rfl,sl,hcl⟩:=HC.out.resolve_left (by omega)
    obtain⟨bm,om,rfl,sm,hcm⟩:=HC'.out.resolve_left (by have:=HL.out;omega)
    obtain⟨x,hx⟩:=gol hlt
    obtain⟨y,hy⟩:=gol (xs:=m) (i:=k) (by have:=HL.out;omega)
    have hkm:k<m.length:=by have:=HL.out;omega
    have x0:wr.cell? ⟨bl,ol+k*2,none⟩=some (.int .u8 x.author.toNat):=((hcl k x hx wr hbl)).2 0 _ rfl
    have x1:wr.cell? ⟨bl,ol+k*2+1,none⟩=some (.int .u16 x.seq.toNat):=((hcl k x hx wr hbl)).2 1 _ rfl
    have y0:wr.cell? ⟨bm,om+k*2,none⟩=some (.int .u8 y.author.toNat):=((hcm k y hy wr hbl)).2 0 _ rfl
    have y1:wr.cell? ⟨bm,om+k*2+1,none⟩=some (.int .u16 y.seq.toNat):=((hcm k y hy wr hbl)).2 1 _ rfl
    have sX:=(hcl k x hx wr hbl).1
    have sY:=(hcm k y hy wr hbl).1
    have HX:=Lh hx
    have HY:=Lh hy
    clear hcl hcm hx hy
    by_cases hxy:x=y
    ·
     have hne:=neq_pid x y false (by simp [hxy])
     unfold pidV at hne
     have HK2:Hid (l.take (k+1)=m.take (k+1)):=by show _=_;rw [tsg HX.out,tsg HY.out,HK.out,hxy]
     clear hxy
     go_wp2_with fail
     have hcur:Below wr.heap.size wr wr.drew:=(Below.refl _ _).drew
     refine wlex (C:=IsOver wr) 9 [] (by kernel_rfl) (by kernel_rfl) (iov hcur) ?_
     simp only [Tsc,Tz,Dsc,Dz]
     repeat(first|(refine lxs rfl rfl ?_;simp only [Act.put,Sib,Scs,Scz])|(refine lxo rfl ?_;go_big_quiet_step (fail);refine wpQuiet_nil ?_))
     refine lxe ?_
     go_wp2_with fail
     go_roundw
     case rel=>exact⟨k+1,hlt,by go_num,HK2,hbl.drew⟩
     case measure=>simp [intOf];omega
    ·
     have hne:=neq_pid x y true (by simp [hxy])
     unfold pidV at hne
     have HN:Hid (decide (l=m)=false):=decide_eq_false (take_ne HX.out HY.out hxy)
     clear hxy
     go_wp2_with fail
     have hcur:Below wr.heap.size wr wr.drew:=(Below.refl _ _).drew
     refine wlex (C:=IsOver wr) 9 [] (by kernel_rfl) (by kernel_rfl) (iov hcur) ?_
     simp only [Tsc,Tz,Dsc,Dz]
     repeat(first|(refine lxs rfl rfl ?_;simp only [Act.put,Sib,Scs,Scz])|(refine lxo rfl ?_;go_big_quiet_step (fail);refine wpQuiet_nil ?_))
     refine lxe ?_
     go_wp2_with fail
     go_ret
     exact⟨rvl (congrArg Value.bool HN.out.symm),hbl.drew⟩
   ·
    obtain rfl:k=l.length:=by omega
    have HN:Hid (decide (l=m)=true):=decide_eq_true (take_all HL.out HK.out)
    go_wp2_with fail
    go_ret
    exact⟨rvl (congrArg Value.bool HN.out.symm),hbl⟩
 ·
  have HN:Hid (decide (l=m)=false):=decide_eq_false (fun h=>hlen (by rw [h]))
  have hq:((l.length:Int) != (m.length:Int))=true:=by simp;omega
  clear hlen
  go_enter Tryz.func111,Tryz.ntmps111
  go_wp2_with fail
  go_ret
  exact⟨rvl (congrArg Value.bool HN.out.symm),Below.refl _ _⟩
end Go.Proofs.YtllcipobiengiaaGreat
namespace Go.Proofs.YtllcipobiengiaaGreat
open Go Go.RowKit

abbrev patV(id:PidM)(dv ov:Value):Value:=.agg #[.int .u8 id.author.toNat,.int .u16 id.seq.toNat,dv,ov]
def kindM(id:PidM)(ops:List OpM)(v:VidM):Option UInt8:=if v.pid=id then(ops[v.n.toNat]?).map (·.kind) else none
def kindV(k:Option UInt8):Value:=.tuple #[.int .u8 ((k.getD 0).toNat:Int),.bool k.isSome]
def KindRes(w:World)(k:Option UInt8)(e:Ending)(w':World):Prop:=e=.returned (kindV k)∧Below w.heap.size w w'
theorem kind_far{id:PidM}{ops:List OpM}{v:VidM}(h:¬ v.pid=id):kindM id ops v=none:=by unfold kindM;rw [if_neg h]
theorem kind_out{id:PidM}{ops:List OpM}{v:VidM}(h:ops.length≤v.n.toNat):kindM id ops v=none:=by
 unfold kindM;split
 ·
  rw [List.getElem?_eq_none h];rfl
 ·
  rfl
theorem kind_in{id:PidM}{ops:List OpM}{v:VidM}(h:v.pid=id){o:OpM}(ho:ops[v.n.toNat]? = some o):kindM id ops v=some o.kind:=by unfold kindM;rw [if_pos h,ho];rfl
theorem get_op{ops:List OpM}{n:Nat}(h:n<ops.length):∃ o,ops[n]? = some o:=gol h
attribute [local irreducible] kindM
set_option maxHeartbeats 4000000 in
set_option maxRecDepth 100000 in
theorem pkind_any(id:PidM)(dv ov:Value)(ops:List OpM)(v:VidM)(w:World)(hv:GRow encOp 8 w ov ops) :
  Calls Tryz.prog 157 #[patV id dv ov,vidV v] w (KindRes w (kindM id ops v)):=by
 obtain⟨a,cap,rfl,h1,h2,hc⟩:=hv.at encOp_len
 unfold maxLen at h2
 have HC:=Lh hc
 have HP:=Lh ((anw w #[.int .u8 id.author.toNat,.int .u16 id.seq.toNat,dv,.slice a ops.length cap] 61).alloc (.cells #[.int .u8 v.pid.author.toNat,.int .u16 v.pid.seq.toNat,.int .u8 v.n.toNat] 40))
 have HV:=Lh (an2 w (.cells #[.int .u8 id.author.toNat,.int .u16 id.seq.toNat,dv,.slice a ops.length cap] 61) #[.int .u8 v.pid.author.toNat,.int .u16 v.pid.seq.toNat,.int .u8 v.n.toNat] 40)
 have HB:=Lh ((bnew (w:=w) (.cells #[.int .u8 id.author.toNat,.int .u16 id.seq.toNat,dv,.slice a ops.length cap] 61)).alloc (by simp) (.cells #[.int .u8 v.pid.author.toNat,.int .u16 v.pid.seq.toNat,.int .u8 v.n.toNat] 40))
 have gd:=fun p q xs ys w=>guard_pid .neq p q xs ys w
 have hnl:=v.n.toNat_lt
 clear hv hc
 unfold patV vidV
 go_enter Tryz.func157,Tryz.ntmps157
 go_upto_region 1 with(fail)
 generalize hw0:(w.alloc (.cells #[.int .u8 id.author.toNat,.int .u16 id.seq.toNat,dv,.slice a ops.length cap] 61)).alloc (.cells #[.int .u8 v.pid.author.toNat,.int .u16 v.pid.seq.toNat,.int .u8 v.n.toNat] 40)=w0 at *
 clear hw0
 have p0:=HP.out.k 0 rfl
 have p1:=HP.out.k 1 rfl
 have p2:=HP.out.k 2 rfl
 have p3:=HP.out.k 3 rfl
 have sp:=HP.out.lt
 have v0:=HV.out.k 0 rfl
 have v1:=HV.out.k 1 rfl
 have v2:=HV.out.k 2 rfl
 have sv:=HV.out.lt
 by_cases hp:v.pid=id
 ·
  have e1:=neq_pid v.pid id false (by simp [hp])
  unfold pidV at e1
  by_cases hn:ops.length≤v.n.toNat
  ·
   have e2:decide (ops.length≤v.n.toNat)=true:=by simpa using hn
   have HK:=Lh (kind_out (id:=id) hn)
   clear hp hn
   go_wp2_with fail
   go_ret2
   exact⟨(by rw [HK.out];rfl),HB.out⟩
  ·
   have e2:decide (ops.length≤v.n.toNat)=false:=by simpa using hn
   obtain⟨b,off,rfl,sb,hcb⟩:=HC.out.resolve_left (by omega)
   obtain⟨o,ho⟩:=get_op (show v.n.toNat<ops.length by omega)
   have HO:=Lh (hcb v.n.toNat o ho w0 HB.out)
   have HK:=Lh (kind_in hp ho)
   have o0:w0.cell? ⟨b,off+v.n.toNat*8,none⟩=some (.int .u8 o.kind.toNat):=HO.out.2 0 _ rfl
   have so:=HO.out.1
   have hlt:v.n.toNat<ops.length:=by omega
   clear hp hn hcb ho
   go_wp2_with fail
   go_ret2
   exact⟨(by rw [HK.out];rfl),HB.out⟩
 ·
  have e1:=neq_pid v.pid id true (by simp [hp])
  unfold pidV at e1
  have HK:=Lh (kind_far (ops:=ops) hp)
  clear hp
  go_wp2_with fail
  go_ret2
  exact⟨(by rw [HK.out];rfl),HB.out⟩

def wantK(o:OpM):UInt8:=if o.kind=4 then 3 else 1
def kindOkB(id:PidM)(ops:List OpM)(o:OpM)(v:VidM):Bool:=match kindM id ops v with|some k=>k == wantK o|none=>true
def sameAtB(id:PidM)(ops:List OpM)(o:OpM):Bool:=if o.kind=4∧o.at'.pid=id∧o.to.pid=id then decide ((ops[o.at'.n.toNat]?).map (·.at')=(ops[o.to.n.toNat]?).map (·.at')) else true
def suitsM(id:PidM)(ops:List OpM)(o:OpM):Bool:=(refsM o).all (kindOkB id ops o) && sameAtB id ops o
theorem want4{o:OpM}(h:o.kind.toNat=4):wantK o=3:=by unfold wantK;have:o.kind=4:=(u8_nat _ 4 (by omega)).2 h;rw [if_pos this]
theorem want1{o:OpM}(h:¬ o.kind.toNat=4):wantK o=1:=by unfold wantK;have:¬ o.kind=4:=fun e=>h ((u8_nat _ 4 (by omega)).1 e);rw [if_neg this]
theorem suits_no{id:PidM}{ops:List OpM}{o:OpM}{k:Nat}{v:VidM}(hv:(refsM o)[k]? = some v)(h:kindOkB id ops o v=false):suitsM id ops o=false:=by
 unfold suitsM
 have:(refsM o).all (kindOkB id ops o)=false:=List.all_eq_false.2 ⟨v,List.mem_of_getElem? hv,by simp [h]⟩
 rw [this];rfl
theorem suits_end{id:PidM}{ops:List OpM}{o:OpM}(h:((refsM o).take (refsM o).length).all (kindOkB id ops o)=true):suitsM id ops o=sameAtB id ops o:=by
 rw [List.take_length] at h;unfold suitsM;rw [h];rfl
theorem all_take'{α:Type}{f:α→Bool}{l:List α}{k:Nat}{x:α}(hx:l[k]? = some x)(h:(l.take k).all f=true)(hf:f x=true):(l.take (k+1)).all f=true:=by
 rw [tsg hx,List.all_append,h];simp [hf]
theorem sameAt_not{id:PidM}{ops:List OpM}{o:OpM}(h:¬ (o.kind.toNat=4∧o.at'.pid=id∧o.to.pid=id)):sameAtB id ops o=true:=by
 unfold sameAtB;rw [if_neg];rintro⟨h1,h2,h3⟩;exact h ⟨(u8_nat _ 4 (by omega)).1 h1,h2,h3⟩
theorem sameAt_yes{id:PidM}{ops:List OpM}{o a b:OpM}(h:o.kind.toNat=4)(h1:o.at'.pid=id)(h2:o.to.pid=id)(ha:ops[o.at'.n.toNat]? = some a)(hb:ops[o.to.n.toNat]? = some b):sameAtB id ops o=decide (a.at'=b.at'):=by
 unfold sameAtB;rw [if_pos ⟨(u8_nat _ 4 (by omega)).2 h,h1,h2⟩,ha,hb];simp
attribute [local irreducible] refsM kindOkB sameAtB suitsM wantK
set_option maxHeartbeats 10000000 in
set_option maxRecDepth 100000 in
theorem psuits_any(id:PidM)(dv ov:Value)(ops:List OpM)(o:OpM)(w:World)(hv:GRow encOp 8 w ov ops)(hown:∀ v∈refsM o,v.pid=id→v.n.toNat<ops.length) :
  Calls Tryz.prog 114 #[patV id dv ov,opV o] w fun e w'=>e=.returned (.bool (suitsM id ops o))∧Below w.heap.size w w':=by
 have HV0:=Lh hv
 obtain⟨a,cap,rfl,h1,h2,hc⟩:=hv.at encOp_len
 unfold maxLen at h2
 have HC:=Lh hc
 have HW:=Lh hown
 have HP:=Lh ((anw w #[.int .u8 id.author.toNat,.int .u16 id.seq.toNat,dv,.slice a ops.length cap] 61).alloc (.cells #[.int .u8 o.kind.toNat,.int .u8 o.at'.pid.author.toNat,.int .u16 o.at'.pid.seq.toNat,.int .u8 o.at'.n.toNat,.int .u8 o.to.pid.author.toNat,.int .u16 o.to.pid.seq.toNat,.int .u8 o.to.n.toNat,.string o.text] 58))
 have HO:=Lh (an2 w (.cells #[.int .u8 id.author.toNat,.int .u16 id.seq.toNat,dv,.slice a ops.length cap] 61) #[.int .u8 o.kind.toNat,.int .u8 o.at'.pid.author.toNat,.int .u16 o.at'.pid.seq.toNat,.int .u8 o.at'.n.toNat,.int .u8 o.to.pid.author.toNat,.int .u16 o.to.pid.seq.toNat,.int .u8 o.to.n.toNat,.string o.text] 58)
 have HB:=Lh ((bnew (w:=w) (.cells #[.int .u8 id.author.toNat,.int .u16 id.seq.toNat,dv,.slice a ops.length cap] 61)).alloc (by simp) (.cells #[.int .u8 o.kind.toNat,.int .u8 o.at'.pid.author.toNat,.int .u16 o.at'.pid.seq.toNat,.int .u8 o.at'.n.toNat,.int .u8 o.to.pid.author.toNat,.int .u16 o.to.pid.seq.toNat,.int .u8 o.to.n.toNat,.string o.text] 58))
 have gd:=fun p q xs ys w=>guard_pid .eql p q xs ys w
 have gd2:=fun p q xs ys w=>guard_vid .eql p q xs ys w
 have hrl:=refs_len o
 clear hv hc hown
 unfold patV opV
 go_enter Tryz.func114,Tryz.ntmps114
 go_upto_if 12 with(fail)
 generalize hw0:(w.alloc (.cells #[.int .u8 id.author.toNat,.int .u16 id.seq.toNat,dv,.slice a ops.length cap] 61)).alloc (.cells #[.int .u8 o.kind.toNat,.int .u8 o.at'.pid.author.toNat,.int .u16 o.at'.pid.seq.toNat,.int .u8 o.at'.n.toNat,.int .u8 o.to.pid.author.toNat,.int .u16 o.to.pid.seq.toNat,.int .u8 o.to.n.toNat,.string o.text] 58)=w0 at *
 clear hw0
 have HV:=Lh (HV0.out.over HB.out)
 go_cut [5] (fun s5 wx=>s5=.int .u8 ((wantK o).toNat:Int)∧wx=w0)
 case first =>
  have o0:=HO.out.k 0 rfl
  have so:=HO.out.lt
  by_cases h4:o.kind.toNat=4
  ·
   have e1:((o.kind.toNat:Int) == 4)=true:=by simp;omega
   have HWk:=Lh (want4 h4)
   clear h4
   go_wp2_with fail
   go_meet
   exact⟨by rw [HWk.out];rfl,rfl⟩
  ·
   have e1:((o.kind.toNat:Int) == 4)=false:=by simp;omega
   have HWk:=Lh (want1 h4)
   clear h4
   go_wp2_with fail
   go_meet
   exact⟨by rw [HWk.out];rfl,rfl⟩
 case rest =>
  obtain⟨rfl,rfl⟩:=hcut
  rename World=>w0
  have o0:=HO.out.k 0 rfl
  have o1:=HO.out.k 1 rfl
  have o2:=HO.out.k 2 rfl
  have o3:=HO.out.k 3 rfl
  have o4:=HO.out.k 4 rfl
  have o5:=HO.out.k 5 rfl
  have o6:=HO.out.k 6 rfl
  have o7:=HO.out.k 7 rfl
  have so:=HO.out.lt
  go_wp2_with fail
  refine(prefs_any o _).mono ?_
  rintro e w1 ⟨v1,rfl,hv1,hb1⟩
  obtain⟨a1,cap1,rfl,q1,q2,hc1⟩:=(GRow.at encVid_len (RefsAt.vrow hv1))
  unfold maxLen at q2
  have HC1:=Lh hc1
  have HB1:=Lh hb1
  clear hv1 hb1 hc1 o0 o1 o2 o3 o4 o5 o6 o7 so
  go_wp2_with fail
  go_loopw [16] (fun v16 wr=>∃ k:Nat,k≤(refsM o).length∧v16=.int .i64 k∧Hid (((refsM o).take k).all (kindOkB id ops o)=true)∧Below w1.heap.size w1 wr) (fun v16 _=>(refsM o).length - (intOf v16).toNat)
  case atStart=>exact⟨0,by omega,rfl,(by show _=_;simp),Below.refl _ _⟩
  case round =>
   obtain⟨k,hk,rfl,HK,hbl⟩:=hrel
   have HBw:=Lh (bov HB1.out HB1.out.size hbl)
   by_cases hlt:k<(refsM o).length
   ·
    obtain⟨b,off,rfl,sb,hcb⟩:=HC1.out.resolve_left (by omega)
    obtain⟨v,hv⟩:=gol hlt
    have HVd:=Lh (hcb k v hv wr hbl)
    have v0:wr.cell? ⟨b,off+k*3,none⟩=some (.int .u8 v.pid.author.toNat):=(HVd.out).2 0 _ rfl
    have v1:wr.cell? ⟨b,off+k*3+1,none⟩=some (.int .u16 v.pid.seq.toNat):=(HVd.out).2 1 _ rfl
    have v2:wr.cell? ⟨b,off+k*3+2,none⟩=some (.int .u8 v.n.toNat):=(HVd.out).2 2 _ rfl
    have sv:=HVd.out.1
    have HX:=Lh hv
    have HPw:=Lh ((HP.out.over HBw.out))
    have p0:=HPw.out.k 0 rfl
    have p1:=HPw.out.k 1 rfl
    have p2:=HPw.out.k 2 rfl
    have p3:=HPw.out.k 3 rfl
    have sp:=HPw.out.lt
    have HBv:Hid (Below wr.heap.size wr (wr.alloc (.cells #[.int .u8 v.pid.author.toNat,.int .u16 v.pid.seq.toNat,.int .u8 v.n.toNat] 40))):=bnew _
    have HVw:=Lh ((HV.out.over HBw.out).over HBv.out)
    clear hcb hv
    go_wp2_with fail
    refine(pkind_any id dv _ ops v _ HVw.out).mono ?_
    rintro e w2 ⟨rfl,hb2⟩
    have HB2:=Lh (bov (bov hbl hbl.size HBv.out) (by have:=hbl.size;simp;omega) hb2)
    have HB3:=Lh (bov HB.out HB.out.size (bov HB1.out HB1.out.size HB2.out))
    clear hb2 v0 v1 v2 sv p0 p1 p2 p3 sp
    unfold kindV
    cases hkm:kindM id ops v with
    | none =>
     have HKo:Hid (kindOkB id ops o v=true):=by show _=_;unfold kindOkB;rw [hkm]
     have HN:=Lh (all_take' HX.out HK.out HKo.out)
     clear hkm
     go_wp2_with fail
     go_roundw
     case rel=>exact⟨k+1,hlt,by go_num,HN,HB2.out⟩
     case measure=>simp [intOf];omega
    | some q =>
     by_cases hq:q=wantK o
     ·
      have HKo:Hid (kindOkB id ops o v=true):=by show _=_;unfold kindOkB;rw [hkm];simp [hq]
      have HN:=Lh (all_take' HX.out HK.out HKo.out)
      have e1:((q.toNat:Int) != ((wantK o).toNat:Int))=false:=by simp [hq]
      clear hkm hq
      go_wp2_with fail
      go_roundw
      case rel=>exact⟨k+1,hlt,by go_num,HN,HB2.out⟩
      case measure=>simp [intOf];omega
     ·
      have HKo:Hid (kindOkB id ops o v=false):=by show _=_;unfold kindOkB;rw [hkm];simp [hq]
      have HN:=Lh (suits_no HX.out HKo.out)
      have e1:((q.toNat:Int) != ((wantK o).toNat:Int))=true:=by
       simp;intro h;exact hq (UInt8.toNat_inj.1 (by omega))
      clear hkm hq
      go_wp2_with fail
      go_ret
      exact⟨rvl (congrArg Value.bool HN.out.symm),HB3.out⟩
   ·
    obtain rfl:k=(refsM o).length:=by omega
    have HE:=Lh (suits_end HK.out)
    have HBe:=Lh (bov HB.out HB.out.size HBw.out)
    have HOw:=Lh ((HO.out.over HBw.out))
    have HPw:=Lh ((HP.out.over HBw.out))
    have o0:=HOw.out.k 0 rfl
    have o1:=HOw.out.k 1 rfl
    have o2:=HOw.out.k 2 rfl
    have o3:=HOw.out.k 3 rfl
    have o4:=HOw.out.k 4 rfl
    have o5:=HOw.out.k 5 rfl
    have o6:=HOw.out.k 6 rfl
    have so:=HOw.out.lt
    have p0:=HPw.out.k 0 rfl
    have p1:=HPw.out.k 1 rfl
    have p3:=HPw.out.k 3 rfl
    have sp:=HPw.out.lt
    by_cases h4:o.kind.toNat=4
    ·
     have e1:((o.kind.toNat:Int) == 4)=true:=by simp;omega
     by_cases ha:o.at'.pid=id
     ·
      have e2:=eql_pid o.at'.pid id true (by simp [ha])
      unfold pidV at e2
      by_cases hb:o.to.pid=id
      ·
       have e3:=eql_pid o.to.pid id true (by simp [hb])
       unfold pidV at e3
       have hr2:=refs_two h4
       have hla:=HW.out o.at' (by rw [hr2];simp) ha
       have hlb:=HW.out o.to (by rw [hr2];simp) hb
       obtain⟨b,off,rfl,sb,hcb⟩:=HC.out.resolve_left (by omega)
       obtain⟨x,hx⟩:=get_op hla
       obtain⟨y,hy⟩:=get_op hlb
       have HXa:=Lh (hcb _ x hx wr HBe.out)
       have HYa:=Lh (hcb _ y hy wr HBe.out)
       have HS:=Lh (sameAt_yes h4 ha hb hx hy)
       have x1:wr.cell? ⟨b,off+o.at'.n.toNat*8+1,none⟩=some (.int .u8 x.at'.pid.author.toNat):=HXa.out.2 1 _ rfl
       have x2:wr.cell? ⟨b,off+o.at'.n.toNat*8+2,none⟩=some (.int .u16 x.at'.pid.seq.toNat):=HXa.out.2 2 _ rfl
       have x3:wr.cell? ⟨b,off+o.at'.n.toNat*8+3,none⟩=some (.int .u8 x.at'.n.toNat):=HXa.out.2 3 _ rfl
       have y1:wr.cell? ⟨b,off+o.to.n.toNat*8+1,none⟩=some (.int .u8 y.at'.pid.author.toNat):=HYa.out.2 1 _ rfl
       have y2:wr.cell? ⟨b,off+o.to.n.toNat*8+2,none⟩=some (.int .u16 y.at'.pid.seq.toNat):=HYa.out.2 2 _ rfl
       have y3:wr.cell? ⟨b,off+o.to.n.toNat*8+3,none⟩=some (.int .u8 y.at'.n.toNat):=HYa.out.2 3 _ rfl
       have sxy:=HXa.out.1
       have e4:=eql_vid x.at' y.at' _ rfl
       unfold vidV at e4
       generalize decide (x.at'=y.at')=q at *
       have hna:=o.at'.n.toNat_lt
       have hnb:=o.to.n.toNat_lt
       clear h4 ha hb hr2 hcb hx hy
       go_wp2_with fail
       have hcur:Below wr.heap.size wr wr.drew:=(Below.refl _ _).drew
       refine wlex (C:=IsOver wr) 17 [] (by kernel_rfl) (by kernel_rfl) (iov hcur) ?_
       simp only [Tsc,Tz,Dsc,Dz]
       repeat(first|(refine lxs rfl rfl ?_;simp only [Act.put,Sib,Scs,Scz])|(refine lxo rfl ?_;go_big_quiet_step (fail);refine wpQuiet_nil ?_))
       refine lxe ?_
       go_wp2_with fail
       go_ret
       exact⟨rvl (congrArg Value.bool (HE.out.trans HS.out).symm),bov HB.out HB.out.size (bov HB1.out HB1.out.size hbl.drew)⟩
      ·
       have e3:=eql_pid o.to.pid id false (by simp [hb])
       unfold pidV at e3
       have HS:Hid (sameAtB id ops o=true):=sameAt_not (fun h=>hb h.2.2)
       clear h4 ha hb
       go_wp2_with fail
       go_ret
       exact⟨rvl (congrArg Value.bool (HE.out.trans HS.out).symm),HBe.out⟩
     ·
      have e2:=eql_pid o.at'.pid id false (by simp [ha])
      unfold pidV at e2
      have HS:Hid (sameAtB id ops o=true):=sameAt_not (fun h=>ha h.2.1)
      clear h4 ha
      go_wp2_with fail
      go_ret
      exact⟨rvl (congrArg Value.bool (HE.out.trans HS.out).symm),HBe.out⟩
    ·
     have e1:((o.kind.toNat:Int) == 4)=false:=by simp;omega
     have HS:Hid (sameAtB id ops o=true):=sameAt_not (fun h=>h4 h.1)
     clear h4
     go_wp2_with fail
     go_ret
     exact⟨rvl (congrArg Value.bool (HE.out.trans HS.out).symm),HBe.out⟩
end Go.Proofs.YtllcipobiengiaaGreat
