/- Contracts of a sheet's Len, Rel, Vert, Order, Alive, Firm. Contracts of edit.firm, texts. Contract of edit.keeps. Contract of edit.kills. -/
import Derived.Test.YtllcipobiengiaaGreatYLinB
import Derived.Test.YtllcipobiengiaaGreatYRefP
namespace Go.Proofs.YtllcipobiengiaaGreat
open Go Go.RowKit

/-- the sheet's block, and what it leads to -/
structure ShLook (w:World) (s:Nat) (l:List VertM) (R:List (Nat × Nat)) (lp:Option Addr) (lc r:Nat) (op:Option Addr) (oc:Nat):Prop where
 arr:Arr w s [.slice lp l.length lc,.pointer (some ⟨r,0,none⟩),.slice op l.length oc]
 row:GRow encVert 9 w (.slice lp l.length lc) l
 rel:RelAt w r l.length R
 ord:GRow encI 1 w (.slice op l.length oc) (orderM R l.length)
theorem ShAt.look{w:World}{s:Nat}{l:List VertM}{R:List (Nat × Nat)}(h:ShAt w s l R):∃ lp lc r op oc,ShLook w s l R lp lc r op oc:=by
 obtain⟨lp,lc,r,op,oc,h1,h2,h3,h4⟩:=h
 exact⟨lp,lc,r,op,oc,h1,h2,h3,h4⟩
attribute [local irreducible] orderM
set_option maxHeartbeats 8000000 in
set_option maxRecDepth 100000 in
theorem slen_any(s:Nat)(l:List VertM)(R:List (Nat × Nat))(w:World)(h:ShAt w s l R):Calls Tryz.prog 81 #[.pointer (some ⟨s,0,none⟩)] w fun e w'=>e=.returned (.int .i64 l.length)∧w'=w:=by
 obtain⟨lp,lc,r,op,oc,hL⟩:=h.look
 have s0:=hL.arr.cell (j:=0) rfl
 have ss:=hL.arr.lt
 clear h hL
 go_enter Tryz.func81,Tryz.ntmps81
 go_wp2_with fail
 go_ret
 exact⟨rfl,rfl⟩
set_option maxHeartbeats 8000000 in
set_option maxRecDepth 100000 in
theorem srel_any(s:Nat)(l:List VertM)(R:List (Nat × Nat))(w:World)(h:ShAt w s l R):Calls Tryz.prog 43 #[.pointer (some ⟨s,0,none⟩)] w fun e w'=>(∃ r,e=.returned (.pointer (some ⟨r,0,none⟩))∧RelAt w r l.length R)∧w'=w:=by
 obtain⟨lp,lc,r,op,oc,hL⟩:=h.look
 have s1:=hL.arr.cell (j:=1) rfl
 have ss:=hL.arr.lt
 have HR:=Lib.hid hL.rel
 clear h hL
 go_enter Tryz.func43,Tryz.ntmps43
 go_wp2_with fail
 go_ret
 exact⟨⟨r,rfl,HR.out⟩,rfl⟩
def SvRes(w:World)(x:VertM)(e:Ending)(w':World):Prop:=e=.returned (.tuple #[vertV x,.bool true])∧Below w.heap.size w w'
theorem svres_mk{w w':World}{x:VertM}(h:Below w.heap.size w w'):SvRes w x (.returned (.tuple #[vertV x,.bool true])) w':=⟨rfl,h⟩
set_option maxHeartbeats 8000000 in
set_option maxRecDepth 100000 in
theorem svert_any(s i:Nat)(x:VertM)(l:List VertM)(R:List (Nat × Nat))(w:World)(h:ShAt w s l R)(hx:l[i]? = some x):Calls Tryz.prog 35 #[.pointer (some ⟨s,0,none⟩),.int .i64 i] w (SvRes w x):=by
 have hi:=(List.getElem?_eq_some_iff.1 hx).1
 have HH:=Lib.hid (h.over (bnew (w:=w) (.cells #[.int .u8 0,.int .u16 0,.int .u8 0,.int .u8 0,.int .u8 0,.int .u16 0,.int .u8 0,.string ⟨#[]⟩,.bool false] 88)))
 have HR:=Lib.hid (anw w #[.int .u8 0,.int .u16 0,.int .u8 0,.int .u8 0,.int .u8 0,.int .u16 0,.int .u8 0,.string ⟨#[]⟩,.bool false] 88)
 have HB:=Lib.hid (bnew (w:=w) (.cells #[.int .u8 0,.int .u16 0,.int .u8 0,.int .u8 0,.int .u8 0,.int .u16 0,.int .u8 0,.string ⟨#[]⟩,.bool false] 88))
 have d1:decide ((l.length:Int)≤(i:Int))=false:=by simp;omega
 have d2:decide (l.length≤i)=false:=by simp;omega
 have HX:=Lib.hid hx
 clear h hx
 go_enter Tryz.func35,Tryz.ntmps35
 go_upto_region 1 with(fail)
 generalize hw0:w.alloc (.cells #[.int .u8 0,.int .u16 0,.int .u8 0,.int .u8 0,.int .u8 0,.int .u16 0,.int .u8 0,.string ⟨#[]⟩,.bool false] 88)=w0 at *
 clear hw0
 go_wp2_with fail
 refine(slen_any s l R _ HH.out).mono ?_
 rintro e w1 ⟨rfl,hw⟩
 obtain rfl:=hw.symm
 obtain⟨lp,lc,r,op,oc,hL⟩:=HH.out.look
 have s0:=hL.arr.cell (j:=0) rfl
 have ss:=hL.arr.lt
 obtain⟨a,cap,e1,z1,z2,hc⟩:=hL.row.at encVert_len
 cases e1
 obtain⟨b,off,rfl,sb,hcb⟩:=hc.resolve_left (by omega)
 have HRx:=Lib.hid (hcb i x HX.out w0 (Below.refl _ _))
 have x0:w0.cell? ⟨b,off+i*9,none⟩=some (.int .u8 x.id.pid.author.toNat):=(HRx.out).2 0 _ rfl
 have x1:w0.cell? ⟨b,off+i*9+1,none⟩=some (.int .u16 x.id.pid.seq.toNat):=(HRx.out).2 1 _ rfl
 have x2:w0.cell? ⟨b,off+i*9+2,none⟩=some (.int .u8 x.id.n.toNat):=(HRx.out).2 2 _ rfl
 have x3:w0.cell? ⟨b,off+i*9+3,none⟩=some (.int .u8 x.kind.toNat):=(HRx.out).2 3 _ rfl
 have x4:w0.cell? ⟨b,off+i*9+4,none⟩=some (.int .u8 x.file.pid.author.toNat):=(HRx.out).2 4 _ rfl
 have x5:w0.cell? ⟨b,off+i*9+5,none⟩=some (.int .u16 x.file.pid.seq.toNat):=(HRx.out).2 5 _ rfl
 have x6:w0.cell? ⟨b,off+i*9+6,none⟩=some (.int .u8 x.file.n.toNat):=(HRx.out).2 6 _ rfl
 have x7:w0.cell? ⟨b,off+i*9+7,none⟩=some (.string x.text):=(HRx.out).2 7 _ rfl
 have x8:w0.cell? ⟨b,off+i*9+8,none⟩=some (.bool x.dead):=(HRx.out).2 8 _ rfl
 have sx:=HRx.out.1
 unfold maxLen at z2
 clear hcb hc hL
 go_wp2_with ((with_reducible show wpList _ _ _ ({dst:=_,op:=.store _ _ _,type:=_,pos:=_,after:=_,guard:=_} :: _) _ _);refine wpList_store_arr rowVert rfl _ _ rfl _ _ (encVert x) HR.out rfl rfl rfl rfl rfl ?_)
 exact bodyPost_ret (v:=.tuple #[vertV x,.bool true]) (rasl rowVert rfl (HR.out.row (encVert x)) rfl rfl rfl) rfl (svres_mk (below_setRow HB.out (Nat.le_refl _) _))

/-! ### rows of numbers -/
set_option maxHeartbeats 8000000 in
set_option maxRecDepth 100000 in
theorem iclone_any(v:Value)(xs:List Nat)(w:World)(hv:GRow encI 1 w v xs)(hl:xs.length≤1000000):Calls Tryz.prog 125 #[v] w (OwnRes encI 1 3 w xs):=by
 obtain⟨a,cap,rfl,h1,h2,hc⟩:=irow_at hv
 unfold maxLen at h2
 cases a with
 | none =>
  have h0:xs=[]:=by
   rcases hc with h0|⟨b,off,e,_⟩
   ·
    exact List.eq_nil_of_length_eq_zero h0
   ·
    cases e
  have HX:=Lib.hid h0
  have hl0:xs.length=0:=by rw [h0];rfl
  have hkn:=fun w=>Lib.run_eql_slice_nil (P:=Tryz.prog) w 85 3 none 0 cap 0 0 Tryz.underlying85
  clear hv hc h0
  go_enter Tryz.func125,Tryz.ntmps125
  go_wp2_with fail
  go_ret
  exact⟨_,rfl,(by rw [HX.out];exact gown_nil _ _),Below.refl _ _⟩
 | some p =>
  have HV:=Lib.hid hv
  have hN:0+xs.length≤1099511627776:=by omega
  have hkn:=fun w=>Lib.run_eql_slice_nil (P:=Tryz.prog) w 85 3 (some p) xs.length cap 0 0 Tryz.underlying85
  clear hv hc
  go_enter Tryz.func125,Tryz.ntmps125
  go_wp2_with (at_builtin;refine wpList_append_old slIntI rfl _ _ rfl w.heap.size (.slice (some ⟨w.heap.size,0,none⟩) 0 0) 0 [] (own_lit0 w _ 1 w.heap.size (Nat.le_refl _)) rfl (.slice (some p) xs.length cap) xs.length (xs.flatMap encI) (HV.out.over (bnew _)) rfl (oneInts xs) hN (by decide) (by simp) ?_;intro v9 w9 ho9 hg9;have HO9:=Lib.hid (show GOwn encI 1 3 w9 w.heap.size v9 xs by(have:=ho9;rw [Nat.zero_add,List.nil_append] at this;exact this));have HB9:=Lib.hid (bgr (bnew (w:=w) (.cells #[] 3)) (by simp) (own_lit0 w 3 1 w.heap.size (Nat.le_refl _)) hg9);clear ho9 hg9)
  go_ret
  exact⟨_,rfl,HO9.out,HB9.out⟩
set_option maxHeartbeats 8000000 in
set_option maxRecDepth 100000 in
theorem sorder_any(s:Nat)(l:List VertM)(R:List (Nat × Nat))(w:World)(h:ShAt w s l R)(hl:l.length≤65536):Calls Tryz.prog 79 #[.pointer (some ⟨s,0,none⟩)] w (OwnRes encI 1 3 w (orderM R l.length)):=by
 obtain⟨lp,lc,r,op,oc,hL⟩:=h.look
 have s2:=hL.arr.cell (j:=2) rfl
 have ss:=hL.arr.lt
 have HO:=Lib.hid hL.ord
 have hol:(orderM R l.length).length≤1000000:=by rw [orderM_len];omega
 clear h hL
 go_enter Tryz.func79,Tryz.ntmps79
 go_wp2_with fail
 refine(iclone_any _ _ _ HO.out hol).mono ?_
 rintro e w1 ⟨v,rfl,ho,hb⟩
 have HO1:=Lib.hid ho
 have HB1:=Lib.hid hb
 clear ho hb
 go_wp2_with fail
 go_ret
 exact⟨_,rfl,HO1.out,HB1.out⟩

/-! ### what is alive -/
def deadQL(l:List VertM)(i:Nat):Bool:=deadLine l i
def aliveQL(l:List VertM)(i:Nat):Bool := !deadLine l i
theorem deadQL_at{l:List VertM}{i:Nat}{x:VertM}(h:l[i]? = some x):deadQL l i=x.dead:=by unfold deadQL deadLine;rw [h]
def keptI(l:List VertM)(xs:List Nat)(j:Nat):List Nat:=(xs.take j).filter (aliveQL l)
theorem keptI_yes{l:List VertM}{xs:List Nat}{j u:Nat}(h:xs[j]? = some u)(hd:deadQL l u=false):keptI l xs (j+1)=keptI l xs j++[u]:=by
 unfold keptI;rw [take_one h,List.filter_append]
 unfold deadQL at hd;simp [aliveQL,hd]
theorem keptI_no{l:List VertM}{xs:List Nat}{j u:Nat}(h:xs[j]? = some u)(hd:deadQL l u=true):keptI l xs (j+1)=keptI l xs j:=by
 unfold keptI;rw [take_one h,List.filter_append]
 unfold deadQL at hd;simp [aliveQL,hd]
theorem keptI_all(l:List VertM)(xs:List Nat):keptI l xs xs.length=xs.filter (aliveQL l):=by unfold keptI;rw [List.take_length]
theorem idxI_cases(l:List VertM)(xs:List Nat):(idxB (deadQL l) xs = -1∧xs.filter (aliveQL l)=xs)∨∃ k u,k<xs.length∧idxB (deadQL l) xs=(k:Int)∧xs[k]? = some u∧deadQL l u=true∧keptI l xs k=xs.take k:=by
 unfold idxB
 cases h:xs.findIdx? (deadQL l) with
 | none =>
  rw [List.findIdx?_eq_none_iff] at h
  exact .inl ⟨rfl,List.filter_eq_self.2 fun x hx=>by have:=h x hx;unfold deadQL at this;simp [aliveQL,this]⟩
 | some k =>
  rw [List.findIdx?_eq_some_iff_getElem] at h
  obtain⟨hk,h1,h2⟩:=h
  refine .inr ⟨k,xs[k],hk,rfl,List.getElem?_eq_getElem hk,h1,?_⟩
  unfold keptI
  refine List.filter_eq_self.2 fun x hx => ?_
  obtain⟨j,hj,rfl⟩:=List.mem_iff_getElem.1 hx
  rw [List.length_take] at hj
  rw [List.getElem_take]
  have:=h2 j (by omega)
  unfold deadQL at this
  simp [aliveQL];simpa using this
theorem ints_map(xs:List Nat):xs.flatMap encI=xs.map fun x:Nat=>Value.int .i64 x:=by
 induction xs with
 | nil=>rfl
 | cons x xs ih=>rw [List.flatMap_cons,ih];rfl
theorem ints_set(xs:List Nat)(k x:Nat):(xs.flatMap encI).set k (.int .i64 x)=(xs.set k x).flatMap encI:=by rw [ints_map,ints_map,List.map_set]
theorem ints_len(xs:List Nat):(xs.flatMap encI).length=xs.length:=by rw [ints_map,List.length_map]
theorem ints_get{xs:List Nat}{k x:Nat}(h:xs[k]? = some x):(xs.flatMap encI)[k]? = some (.int .i64 x):=by rw [ints_map,List.getElem?_map,h];rfl
attribute [local irreducible] idxB deadQL aliveQL keptI
set_option maxHeartbeats 8000000 in
set_option maxRecDepth 100000 in
theorem aliveFn_any(c s i:Nat)(x:VertM)(l:List VertM)(R:List (Nat × Nat))(w:World)(hc:Arr w c [.pointer (some ⟨s,0,none⟩)])(h:ShAt w s l R)(hx:l[i]? = some x) :
  Calls Tryz.prog 80 #[.int .i64 i,.pointer (some ⟨c,0,none⟩)] w fun e w'=>e=.returned (.bool (deadQL l i))∧w'=w:=by
 have hi:=(List.getElem?_eq_some_iff.1 hx).1
 have HV:=Lib.hid (deadQL_at hx)
 obtain⟨lp,lc,r,op,oc,hL⟩:=h.look
 have c0:=hc.cell (j:=0) rfl
 have sc:=hc.lt
 have s0:=hL.arr.cell (j:=0) rfl
 have ss:=hL.arr.lt
 obtain⟨a,cap,e1,z1,z2,hcl⟩:=hL.row.at encVert_len
 cases e1
 obtain⟨b,off,rfl,sb,hcb⟩:=hcl.resolve_left (by omega)
 unfold maxLen at z2
 have x8:w.cell? ⟨b,off+i*9+8,none⟩=some (.bool x.dead):=(hcb i x hx w (Below.refl _ _)).2 8 _ rfl
 clear h hL hcl hcb hx hc
 go_enter Tryz.func80,Tryz.ntmps80
 go_wp2_with fail
 go_ret
 exact⟨rvl (congrArg Value.bool HV.out.symm),rfl⟩
set_option maxHeartbeats 8000000 in
set_option maxRecDepth 100000 in
theorem idxAl_any(v:Value)(xs:List Nat)(c s:Nat)(l:List VertM)(R:List (Nat × Nat))(w:World)(hv:GRow encI 1 w v xs)(hc:Arr w c [.pointer (some ⟨s,0,none⟩)])(h:ShAt w s l R)(hx:∀ i∈xs,i<l.length) :
  Calls Tryz.prog 124 #[v,.func (.func 80) #[] #[.pointer (some ⟨c,0,none⟩)]] w fun e w'=>e=.returned (.int .i64 (idxB (deadQL l) xs))∧w'=w:=by
 obtain⟨a,cap,rfl,h1,h2,hcr⟩:=irow_at hv
 unfold maxLen at h2
 have HC:=Lib.hid hcr
 have HS:=Lib.hid h
 have HA:=Lib.hid hc
 have HX:=Lib.hid hx
 clear hv hcr h hc hx
 go_enter Tryz.func124,Tryz.ntmps124
 go_wp2_with fail
 go_loopw [8] (fun v8 wr=>∃ k:Nat,k≤xs.length∧v8=.int .i64 k∧Hid ((xs.take k).any (deadQL l)=false)∧wr=w) (fun v8 _=>xs.length - (intOf v8).toNat)
 case atStart=>exact⟨0,by omega,rfl,(by show _=_;simp),rfl⟩
 case round =>
  obtain⟨k,hk,rfl,HK,hw⟩:=hrel
  obtain rfl:=hw
  by_cases hlt:k<xs.length
  ·
   obtain⟨b,off,rfl,sb,hcb⟩:=HC.out.resolve_left (by omega)
   obtain⟨u,hu⟩:=gol hlt
   have u0:=(hcb k u hu _ (Below.refl _ _)).2
   have HU:=Lib.hid hu
   obtain⟨x,hxu⟩:=gol (HX.out u (List.mem_of_getElem? hu))
   have HXu:=Lib.hid hxu
   clear hcb hu hxu
   cases hf:deadQL l u with
   | true =>
    have HI:=Lib.hid (idx_hit HK.out HU.out (f:=deadQL l) hf)
    have HV:=Lib.hid hf
    clear hf
    go_wp2_with fail
    refine(aliveFn_any c s u x l R _ HA.out HS.out HXu.out).mono ?_
    rintro e w1 ⟨rfl,hw⟩
    obtain rfl:=hw.symm
    rw [HV.out]
    go_wp2_with fail
    go_ret
    exact⟨ret_int HI.out.symm,rfl⟩
   | false =>
    have HI:=Lib.hid (any_step HK.out HU.out (f:=deadQL l) hf)
    have HV:=Lib.hid hf
    clear hf
    go_wp2_with fail
    refine(aliveFn_any c s u x l R _ HA.out HS.out HXu.out).mono ?_
    rintro e w1 ⟨rfl,hw⟩
    obtain rfl:=hw.symm
    rw [HV.out]
    go_wp2_with fail
    go_roundw
    case rel=>exact⟨k+1,hlt,by go_num,HI,(by first|exact rfl|trivial)⟩
    case measure=>simp [intOf];omega
  ·
   obtain rfl:k=xs.length:=by omega
   have HI:=Lib.hid (idx_miss HK.out)
   go_wp2_with fail
   go_ret
   exact⟨ret_int HI.out.symm,rfl⟩
def DelIRes(w:World)(B:Nat)(v:Value)(l:List VertM)(xs:List Nat)(e:Ending)(w':World):Prop:=∃ v',e=.returned v'∧GOwn encI 1 3 w' B v' (xs.filter (aliveQL l))∧w.grownBy w' v.ownBlock
def DelIRel(w:World)(B g cap:Nat)(l:List VertM)(xs:List Nat)(v5 v6:Value)(wr:World):Prop:=
 ∃(m j:Nat) (zs:List Nat),j≤xs.length∧m<j∧v5=.int .i64 m∧v6=.int .i64 j∧zs.length=xs.length∧Hid (zs.take m=keptI l xs j)∧Hid (∀ i,j≤i→zs[i]? = xs[i]?) ∧
  Hid (OwnAt wr B 3 1 g xs.length cap (zs.flatMap encI))∧Hid (w.grownBy wr (some g))
theorem zero_intI:((Tryz.prog.info? 3).bind (·.zero))=some (.int .i64 0):=by kernel_rfl
set_option maxHeartbeats 8000000 in
set_option maxRecDepth 100000 in
theorem delAl_any{w:World}{B:Nat}{v:Value}{xs:List Nat}(c s:Nat)(l:List VertM)(R:List (Nat × Nat))(h:GOwn encI 1 3 w B v xs)(hn:xs.length≤1000000)(hc:Arr w c [.pointer (some ⟨s,0,none⟩)])(hS:ShAt w s l R)(hx:∀ i∈xs,i<l.length)
  (hne:∀ w',w.grownBy w' v.ownBlock→Arr w' c [.pointer (some ⟨s,0,none⟩)]∧ShAt w' s l R) :
  Calls Tryz.prog 78 #[v,.func (.func 80) #[] #[.pointer (some ⟨c,0,none⟩)]] w (DelIRes w B v l xs):=by
 have HO:=Lib.hid h
 have hcon:=idxAl_any v xs c s l R w h.row hc hS hx
 have HX:=Lib.hid hx
 have HNE:=Lib.hid hne
 rcases idxI_cases l xs with⟨hi,hf⟩|⟨k0,u0,hk0,hi,hu0,hd0,hkp⟩
 ·
  rw [hi] at hcon
  have HF:=Lib.hid hf
  clear h hi hf hc hS hx hne
  go_enter Tryz.func78,Tryz.ntmps78
  go_wp2_with fail
  refine hcon.mono ?_
  rintro e w1 ⟨rfl,hw⟩
  obtain rfl:=hw.symm
  clear hcon
  go_wp2_with fail
  go_ret
  exact⟨_,rfl,(by rw [HF.out];exact HO.out),World.grownBy.refl _ _⟩
 ·
  rw [hi] at hcon
  obtain⟨g,cap,rfl,hA⟩:=own_at (show World.ownsRow _ _ _ _ _ _ _ from h) (by omega)
  have HA:=Lib.hid hA
  have hnc:=hA.nc
  have hcm:=hA.cm
  unfold maxLen at hcm
  have hg:=hA.lt
  have HK0:Hid (xs.take k0=keptI l xs (k0+1)):=by show _=_;rw [keptI_no hu0 hd0,hkp]
  clear h hi hA hu0 hd0 hkp hc hS hx hne
  go_enter Tryz.func78,Tryz.ntmps78
  go_wp2_with fail
  refine hcon.mono ?_
  rintro e w1 ⟨rfl,hw⟩
  obtain rfl:=hw.symm
  have d0:((k0:Int) == -1)=false:=by simp <;> omega
  clear hcon
  go_wp2_with fail
  go_loopw [5,6] (fun v5 v6 wr=>DelIRel w B g cap l xs v5 v6 wr) (fun _ v6 _=>xs.length - (intOf v6).toNat)
  case atStart=>exact⟨k0,k0+1,xs,hk0,Nat.lt_succ_self _,rfl,by go_num,rfl,HK0,Lib.hid (fun _ _=>rfl),HA,World.grownBy.refl _ _⟩
  case round =>
   obtain⟨m,j,zs,hj,hm,rfl,rfl,hz,HT,HJ,HI,HG⟩:=hrel
   rename World=>wr
   have sI:=HI.out.lt
   have HNr:=Lib.hid (HNE.out wr HG.out)
   by_cases hlt:j<xs.length
   ·
    obtain⟨u,hu⟩:=gol hlt
    have hu2:zs[j]? = some u:=(HJ.out j (Nat.le_refl _)).trans hu
    have HU:=Lib.hid hu
    have u0:wr.cell? ⟨g,j,none⟩=some (.int .i64 u):=HI.out.cell (ints_get hu2)
    obtain⟨x,hxu⟩:=gol (HX.out u (List.mem_of_getElem? hu))
    have HXu:=Lib.hid hxu
    clear hu hu2 hxu
    cases hf:deadQL l u with
    | true =>
     have HV:=Lib.hid hf
     have HK:=Lib.hid (keptI_no HU.out hf)
     clear hf
     go_wp2_with fail
     refine(aliveFn_any c s u x l R _ HNr.out.1 HNr.out.2 HXu.out).mono ?_
     rintro e w8 ⟨rfl,hw⟩
     obtain rfl:=hw.symm
     rw [HV.out]
     go_wp2_with fail
     go_roundw
     case rel=>exact⟨m,j+1,zs,hlt,by omega,rfl,by go_num,hz,(by show _=_;rw [HK.out];exact HT.out),Lib.hid (fun i hi=>HJ.out i (by omega)),HI,HG⟩
     case measure=>simp [intOf];omega
    | false =>
     have HV:=Lib.hid hf
     have HK:=Lib.hid (keptI_yes HU.out hf)
     have hml:m<zs.length:=by omega
     obtain⟨y,hy⟩:=gol hml
     have m0:wr.cell? ⟨g,m,none⟩=some (.int .i64 y):=HI.out.cell (ints_get hy)
     have mf:=HI.out.free m
     clear hf hy
     go_wp2_with fail
     refine(aliveFn_any c s u x l R _ HNr.out.1 HNr.out.2 HXu.out).mono ?_
     rintro e w8 ⟨rfl,hw⟩
     obtain rfl:=hw.symm
     rw [HV.out]
     go_wp2_with fail
     go_roundw
     case rel=>exact⟨m+1,j+1,zs.set m u,hlt,by omega,by go_num,by go_num,by simpa using hz,(by show _=_;rw [take_set_end hml,HK.out,HT.out]),Lib.hid (fun i hi=>by rw [List.getElem?_set,if_neg (by omega)];exact HJ.out i (by omega)),Lib.hid (by rw [← ints_set];exact HI.out.setCell m (by rw [ints_len];exact hml) _),Lib.hid (gtr HG.out (gsc _ _ _))⟩
     case measure=>simp [intOf];omega
   ·
    obtain rfl:j=xs.length:=by omega
    have HE:Hid (zs.take m=xs.filter (aliveQL l)):=by show _=_;rw [HT.out,keptI_all]
    have hlen:(xs.filter (aliveQL l)).length=m:=by rw [← HE.out,List.length_take];omega
    have HL:=Lib.hid hlen
    have HTk:=Lib.hid (HI.out.take (k:=m) (by omega))
    have hcm2:¬ cap=m:=by omega
    have HF:Hid ((zs.flatMap encI).take (m*1)=(xs.filter (aliveQL l)).flatMap encI):=by
     show _=_
     rw [← HE.out,Nat.mul_one,ints_map,ints_map,List.map_take]
    clear hlen
    go_wp2_with (refine wpList_clear_at slIntI _ zero_intI (zero_one (fun u hu=>by simp [Value.cells] at hu;subst hu;rfl)) (fun k=>by rw [size_zeroCells];rfl) rfl _ rfl B g m cap _ HTk.out m _ _ _ (by omega) rfl (Nat.le_refl _) (by omega) ?_;intro w3 hA3 hg3 hs3)
    go_ret
    refine⟨_,rfl,?_,gtr HG.out hg3⟩
    show World.ownsRow _ _ _ _ _ _ _
    rw [HL.out,← HF.out]
    exact hA3.own
def SaRes(w:World)(l:List VertM)(R:List (Nat × Nat)):Ending→World→Prop:=OwnRes encI 1 3 w ((orderM R l.length).filter (aliveQL l))
theorem order_lt{R:List (Nat × Nat)}{n i:Nat}(h:i∈orderM R n):i<n:=by unfold orderM at h;exact(orderTo_whole R n n).lt i h
set_option maxHeartbeats 8000000 in
set_option maxRecDepth 100000 in
theorem salive_any(s:Nat)(l:List VertM)(R:List (Nat × Nat))(w:World)(h:ShAt w s l R)(hl:l.length≤65536):Calls Tryz.prog 34 #[.pointer (some ⟨s,0,none⟩)] w (SaRes w l R):=by
 have HS:=Lib.hid (h.over (bnew (w:=w) (.cells #[.pointer (some ⟨s,0,none⟩)] 44)))
 have HC:=Lib.hid (arrT_new w [.pointer (some ⟨s,0,none⟩)] 44)
 have HB:=Lib.hid (bnew (w:=w) (.cells #[.pointer (some ⟨s,0,none⟩)] 44))
 have hC:=HC.out
 have HC2:=Lib.hid (show Arr (w.alloc (.cells #[.pointer (some ⟨s,0,none⟩)] 44)) w.heap.size [.pointer (some ⟨s,0,none⟩)] from hC.arr)
 clear h hC HC
 go_enter Tryz.func34,Tryz.ntmps34
 go_upto_region 1 with(fail)
 generalize hw0:w.alloc (.cells #[.pointer (some ⟨s,0,none⟩)] 44)=w0 at *
 clear hw0
 have c0:=HC2.out.cell (j:=0) rfl
 have sc:=HC2.out.lt
 go_wp2_with fail
 refine(sorder_any s l R _ HS.out hl).mono ?_
 rintro e w1 ⟨v,rfl,ho,hb⟩
 have HO:=Lib.hid ho
 have HB1:=Lib.hid hb
 have hol:(orderM R l.length).length≤1000000:=by rw [orderM_len];omega
 have hbk:∀ k,v.ownBlock=some k→w0.heap.size≤k:=fun k hk=>gown_low ho hk
 have HBK:=Lib.hid hbk
 clear ho hb c0 sc hbk
 go_wp2_with fail
 refine(delAl_any w.heap.size s l R HO.out hol (HC2.out.over HB1.out) (HS.out.over HB1.out) (fun i hi=>order_lt hi) (fun w' hg => ?_)).mono ?_
 ·
  have hb2:Below w0.heap.size w0 w':=HB1.out.grown hg HB1.out.size HBK.out
  exact⟨HC2.out.over hb2,HS.out.over hb2⟩
 ·
  rintro e w2 ⟨v',rfl,ho2,hg2⟩
  have HO2:=Lib.hid (ho2.base HB.out.size)
  have HB2:=Lib.hid (bov HB.out HB.out.size (HB1.out.grown hg2 HB1.out.size HBK.out))
  clear ho2 hg2
  go_wp2_with fail
  go_ret
  exact⟨_,rfl,HO2.out,HB2.out⟩

/-! ### which line is alike no other one -/
open Classical in
noncomputable def firmB(R:List (Nat × Nat))(n i:Nat):Bool:=decide (FirmP R n i)
theorem firmB_iff{R:List (Nat × Nat)}{n i:Nat}:firmB R n i=true↔FirmP R n i:=by unfold firmB;simp
theorem firmB_yes{R:List (Nat × Nat)}{n i:Nat}(hi:i<n)(h:∀ j,j<n→j≠i→aliB R i j=false):firmB R n i=true:=
 firmB_iff.2 ⟨hi,fun j hj hne ha=>by have:=h j hj hne;rw [aliB_iff.2 ha] at this;cases this⟩
theorem firmB_no{R:List (Nat × Nat)}{n i j:Nat}(hj:j<n)(hne:j≠i)(h:aliB R i j=true):firmB R n i=false:=by
 cases hf:firmB R n i with
 | false=>rfl
 | true=>exact absurd (aliB_iff.1 h) ((firmB_iff.1 hf).2 j hj hne)
attribute [local irreducible] firmB aliB
set_option maxHeartbeats 8000000 in
set_option maxRecDepth 100000 in
theorem sfirm_any(s i:Nat)(l:List VertM)(R:List (Nat × Nat))(w:World)(h:ShAt w s l R)(hi:i<l.length)(hl:l.length≤65536):Calls Tryz.prog 133 #[.pointer (some ⟨s,0,none⟩),.int .i64 i] w fun e w'=>e=.returned (.bool (firmB R l.length i))∧w'=w:=by
 have HS:=Lib.hid h
 obtain⟨lp,lc,r,op,oc,hL⟩:=h.look
 have s0:=hL.arr.cell (j:=0) rfl
 have s1:=hL.arr.cell (j:=1) rfl
 have ss:=hL.arr.lt
 have HR:=Lib.hid hL.rel
 have d1:decide ((l.length:Int)≤(i:Int))=false:=by simp;omega
 have d2:decide (l.length≤i)=false:=by simp;omega
 clear h hL
 go_enter Tryz.func133,Tryz.ntmps133
 go_wp2_with fail
 refine(slen_any s l R _ HS.out).mono ?_
 rintro e w1 ⟨rfl,hw⟩
 obtain rfl:=hw.symm
 go_wp2_with fail
 go_loopw [19] (fun v19 wr=>∃ j:Nat,j≤l.length∧v19=.int .i64 j∧Hid (∀ k,k<j→k≠i→aliB R i k=false)∧wr=w) (fun v19 _=>l.length - (intOf v19).toNat)
 case atStart=>exact⟨0,by omega,rfl,Lib.hid (fun k hk=>absurd hk (Nat.not_lt_zero k)),rfl⟩
 case round =>
  obtain⟨j,hj,rfl,HM,hw⟩:=hrel
  obtain rfl:=hw
  by_cases hlt:j<l.length
  ·
   by_cases he:j=i
   ·
    have e1:((j:Int) == (i:Int))=true:=by simp [he]
    have e2:((j:Int) != (i:Int))=false:=by simp [he]
    have HN:Hid (∀ k,k<j+1→k≠i→aliB R i k=false):=fun k hk hne=>by
     rcases Nat.lt_or_ge k j with hl|hl
     ·
      exact HM.out k hl hne
     ·
      exact absurd (show k=i by omega) hne
    clear he
    go_wp2_with fail
    go_roundw
    case rel=>exact⟨j+1,hlt,by go_num,HN,(by first|exact rfl|trivial)⟩
    case measure=>simp [intOf];omega
   ·
    have e1:((j:Int) == (i:Int))=false:=by simp;omega
    have e2:((j:Int) != (i:Int))=true:=by simp;omega
    cases ha:aliB R i j with
    | true =>
     have HV:=Lib.hid ha
     have HF:=Lib.hid (firmB_no hlt he ha)
     clear ha he
     go_wp2_with fail
     refine(rchAlike_any r l.length i j R _ HR.out hi hl (by omega)).mono ?_
     rintro e w2 ⟨rfl,hw⟩
     obtain rfl:=hw.symm
     rw [HV.out]
     go_wp2_with fail
     go_ret
     exact⟨rvl (congrArg Value.bool HF.out.symm),rfl⟩
    | false =>
     have HV:=Lib.hid ha
     have HN:Hid (∀ k,k<j+1→k≠i→aliB R i k=false):=fun k hk hne=>by
      rcases Nat.lt_or_ge k j with hl|hl
      ·
       exact HM.out k hl hne
      ·
       obtain rfl:k=j:=by omega
       exact HV.out
     clear ha he
     go_wp2_with fail
     refine(rchAlike_any r l.length i j R _ HR.out hi hl (by omega)).mono ?_
     rintro e w2 ⟨rfl,hw⟩
     obtain rfl:=hw.symm
     rw [HV.out]
     go_wp2_with fail
     go_roundw
     case rel=>exact⟨j+1,hlt,by go_num,HN,(by first|exact rfl|trivial)⟩
     case measure=>simp [intOf];omega
  ·
   obtain rfl:j=l.length:=by omega
   have HF:=Lib.hid (firmB_yes hi HM.out)
   go_wp2_with fail
   go_ret
   exact⟨rvl (congrArg Value.bool HF.out.symm),rfl⟩
end Go.Proofs.YtllcipobiengiaaGreat
namespace Go.Proofs.YtllcipobiengiaaGreat
open Go Go.RowKit

noncomputable def aliveX(l:List VertM)(R:List (Nat × Nat)):List Nat:=(orderM R l.length).filter (aliveQL l)
noncomputable def firmX(l:List VertM)(R:List (Nat × Nat)):List Nat:=(aliveX l R).filter (firmB R l.length)
theorem aliveX_lt{l:List VertM}{R:List (Nat × Nat)}{i:Nat}(h:i∈aliveX l R):i<l.length:=order_lt (List.mem_filter.1 h).1
theorem aliveX_len(l:List VertM)(R:List (Nat × Nat)):(aliveX l R).length≤l.length:=by
 have:=List.length_filter_le (aliveQL l) (orderM R l.length)
 rw [orderM_len] at this;exact this
theorem firmX_lt{l:List VertM}{R:List (Nat × Nat)}{i:Nat}(h:i∈firmX l R):i<l.length:=aliveX_lt (List.mem_filter.1 h).1
theorem firmX_len(l:List VertM)(R:List (Nat × Nat)):(firmX l R).length≤l.length:=Nat.le_trans (List.length_filter_le _ _) (aliveX_len l R)
noncomputable def firmTo(l:List VertM)(R:List (Nat × Nat))(k:Nat):List Nat:=((aliveX l R).take k).filter (firmB R l.length)
theorem firmTo_zero(l:List VertM)(R:List (Nat × Nat)):firmTo l R 0=[]:=rfl
theorem firmTo_all(l:List VertM)(R:List (Nat × Nat)):firmTo l R (aliveX l R).length=firmX l R:=by unfold firmTo firmX;rw [List.take_length]
theorem firmTo_yes{l:List VertM}{R:List (Nat × Nat)}{k i:Nat}(h:(aliveX l R)[k]? = some i)(hf:firmB R l.length i=true):firmTo l R (k+1)=firmTo l R k++[i]:=by unfold firmTo;rw [take_one h,List.filter_append];simp [hf]
theorem firmTo_no{l:List VertM}{R:List (Nat × Nat)}{k i:Nat}(h:(aliveX l R)[k]? = some i)(hf:firmB R l.length i=false):firmTo l R (k+1)=firmTo l R k:=by unfold firmTo;rw [take_one h,List.filter_append];simp [hf]
theorem firmTo_len(l:List VertM)(R:List (Nat × Nat))(k:Nat):(firmTo l R k).length≤l.length:=by
 unfold firmTo
 refine Nat.le_trans (List.length_filter_le _ _) ?_
 rw [List.length_take];exact Nat.le_trans (Nat.min_le_right _ _) (aliveX_len l R)
theorem sares_is(w:World)(l:List VertM)(R:List (Nat × Nat)):SaRes w l R=OwnRes encI 1 3 w (aliveX l R):=rfl
def FmRel(w1:World)(l:List VertM)(R:List (Nat × Nat))(v3 v9:Value)(wr:World):Prop:=∃ k:Nat,k≤(aliveX l R).length∧v9=.int .i64 k∧Hid (GOwn encI 1 3 wr w1.heap.size v3 (firmTo l R k))∧Hid (Below w1.heap.size w1 wr)
attribute [local irreducible] aliveX firmX firmTo firmB
set_option maxHeartbeats 8000000 in
set_option maxRecDepth 100000 in
theorem efirm_any(s:Nat)(l:List VertM)(R:List (Nat × Nat))(w:World)(h:ShAt w s l R)(hl:l.length≤65536):Calls Tryz.prog 85 #[.pointer (some ⟨s,0,none⟩)] w (OwnRes encI 1 3 w (firmX l R)):=by
 have HS:=Lib.hid h
 have hal:=aliveX_len l R
 clear h
 go_enter Tryz.func85,Tryz.ntmps85
 go_wp2_with fail
 refine(salive_any s l R _ HS.out hl).mono ?_
 rw [sares_is]
 rintro e w1 ⟨v,rfl,ho,hb⟩
 obtain⟨a,cap,rfl,h1,h2,hc⟩:=irow_at ho.row
 unfold maxLen at h2
 have HC:=Lib.hid hc
 have HB:=Lib.hid hb
 clear ho hc hb
 go_wp2_with fail
 go_loopw [3,9] (fun v3 v9 wr=>FmRel w1 l R v3 v9 wr) (fun _ v9 _=>(aliveX l R).length - (intOf v9).toNat)
 case atStart=>exact⟨0,by omega,rfl,Lib.hid (by rw [firmTo_zero];exact gown_nil _ _),Below.refl _ _⟩
 case round =>
  obtain⟨k,hk,rfl,HM,hbl⟩:=hrel
  rename World=>wr
  by_cases hlt:k<(aliveX l R).length
  ·
   obtain⟨b,off,rfl,sb,hcb⟩:=HC.out.resolve_left (by omega)
   obtain⟨i,hi⟩:=gol hlt
   obtain⟨sx,x0⟩:=hcb k i hi _ hbl.out
   have hil:=aliveX_lt (List.mem_of_getElem? hi)
   have HI:=Lib.hid hi
   have HSr:=Lib.hid (HS.out.over (bov HB.out HB.out.size hbl.out))
   have hfl:=firmTo_len l R k
   clear hcb hi
   cases hf:firmB R l.length i with
   | true =>
    have HV:=Lib.hid hf
    have HN:=Lib.hid (firmTo_yes HI.out hf)
    have hN:(firmTo l R k).length+1≤1099511627776:=by omega
    have hB:=hbl.out.size
    clear hf
    go_wp2_with fail
    refine(sfirm_any s i l R _ HSr.out hil hl).mono ?_
    rintro e w2 ⟨rfl,hw⟩
    obtain rfl:=hw.symm
    rw [HV.out]
    go_wp2_with (at_builtin;refine apD slIntI rfl _ _ rfl w1.heap.size _ _ (drf _) 1 _ _ _ HM.out rfl rfl rfl rfl hN (by decide) hB ?_;intro v9 w9 ho9 hg9)
    go_roundw
    case rel=>exact⟨k+1,hlt,by go_num,(by show GOwn _ _ _ _ _ _ _;rw [HN.out];exact GOwn.snoc ho9),bgr hbl.out hB HM.out hg9⟩
    case measure=>simp [intOf];omega
   | false =>
    have HV:=Lib.hid hf
    have HN:=Lib.hid (firmTo_no HI.out hf)
    clear hf
    go_wp2_with fail
    refine(sfirm_any s i l R _ HSr.out hil hl).mono ?_
    rintro e w2 ⟨rfl,hw⟩
    obtain rfl:=hw.symm
    rw [HV.out]
    go_wp2_with fail
    go_roundw
    case rel=>exact⟨k+1,hlt,by go_num,(by show GOwn _ _ _ _ _ _ _;rw [HN.out];exact HM.out),hbl⟩
    case measure=>simp [intOf];omega
  ·
   obtain rfl:k=(aliveX l R).length:=by omega
   have HE:=HM.out
   rw [firmTo_all] at HE
   have HE2:=Lib.hid (HE.base HB.out.size)
   clear HE
   go_wp2_with fail
   go_ret
   exact⟨_,rfl,HE2.out,bov HB.out HB.out.size hbl.out⟩

/-! ### the texts of lines -/
def encS1(t:ByteArray):List Value:=[.string t]
theorem encS1_len(t:ByteArray):(encS1 t).length=1:=rfl
theorem slStrE:SlT Tryz.prog 23 9 1 16:=slT_of Tryz.underlying23 (by kernel_rfl) (by decide)
theorem srow_of{w:World}{v:Value}{xs:List ByteArray}(h:GRow encS1 1 w v xs):SRow w v xs:=by
 have e:xs.flatMap encS1=xs.map Value.string:=by
  clear h
  induction xs with
  | nil=>rfl
  | cons x xs ih=>rw [List.flatMap_cons,ih];rfl
 unfold GRow at h
 rw [e] at h;exact h
def textAt(l:List VertM)(i:Nat):ByteArray:=(l.getD i noVert).text
theorem textAt_get{l:List VertM}{i:Nat}{x:VertM}(h:l[i]? = some x):textAt l i=x.text:=by unfold textAt;rw [getD_of h]
def textsTo(l:List VertM)(is':List Nat)(k:Nat):List ByteArray:=(is'.take k).map (textAt l)
theorem textsTo_zero(l:List VertM)(is':List Nat):textsTo l is' 0=[]:=rfl
theorem textsTo_succ{l:List VertM}{is':List Nat}{k i:Nat}(h:is'[k]? = some i):textsTo l is' (k+1)=textsTo l is' k++[textAt l i]:=by unfold textsTo;rw [take_one h,List.map_append];rfl
theorem textsTo_all(l:List VertM)(is':List Nat):textsTo l is' is'.length=is'.map (textAt l):=by unfold textsTo;rw [List.take_length]
theorem textsTo_len(l:List VertM)(is':List Nat)(k:Nat):(textsTo l is' k).length≤is'.length:=by unfold textsTo;rw [List.length_map,List.length_take];omega
def TxRel(w:World)(l:List VertM)(is':List Nat)(v5 v12:Value)(wr:World):Prop:=∃ k:Nat,k≤is'.length∧v12=.int .i64 k∧Hid (GOwn encS1 1 9 wr w.heap.size v5 (textsTo l is' k))∧Hid (Below w.heap.size w wr)
attribute [local irreducible] textAt textsTo
set_option maxHeartbeats 8000000 in
set_option maxRecDepth 100000 in
theorem etexts_any(s:Nat)(v:Value)(l:List VertM)(R:List (Nat × Nat))(is':List Nat)(w:World)(h:ShAt w s l R)(hv:GRow encI 1 w v is')(hi:∀ i∈is',i<l.length)(hn:is'.length≤1000000) :
  Calls Tryz.prog 87 #[.pointer (some ⟨s,0,none⟩),v] w (OwnRes encS1 1 9 w (is'.map (textAt l))):=by
 have HS:=Lib.hid h
 have HI:=Lib.hid hi
 obtain⟨a,cap,rfl,h1,h2,hc⟩:=irow_at hv
 unfold maxLen at h2
 have HC:=Lib.hid hc
 clear h hv hi hc
 go_enter Tryz.func87,Tryz.ntmps87
 go_wp2_with fail
 go_loopw [5,12] (fun v5 v12 wr=>TxRel w l is' v5 v12 wr) (fun _ v12 _=>is'.length - (intOf v12).toNat)
 case atStart=>exact⟨0,by omega,rfl,Lib.hid (by rw [textsTo_zero];exact gown_nil _ _),Below.refl _ _⟩
 case round =>
  obtain⟨k,hk,rfl,HM,hbl⟩:=hrel
  rename World=>wr
  by_cases hlt:k<is'.length
  ·
   obtain⟨b,off,rfl,sb,hcb⟩:=HC.out.resolve_left (by omega)
   obtain⟨i,hiu⟩:=gol hlt
   obtain⟨sx,x0⟩:=hcb k i hiu _ hbl.out
   obtain⟨x,hx⟩:=gol (HI.out i (List.mem_of_getElem? hiu))
   have HX:=Lib.hid hx
   have HSu:=Lib.hid (textsTo_succ (l:=l) hiu)
   rw [textAt_get hx] at HSu
   have hfl:=textsTo_len l is' k
   have hN:(textsTo l is' k).length+1≤1099511627776:=by omega
   clear hcb hiu hx
   go_wp2_with fail
   refine(svert_any s i x l R _ (HS.out.over hbl.out) HX.out).mono ?_
   rintro e w2 ⟨rfl,hb2⟩
   have HB2:=Lib.hid (bov hbl.out hbl.out.size hb2)
   have HM2:=Lib.hid (HM.out.over hb2)
   clear hb2 x0 sx
   go_upto_region 6 with(fail)
   have HA3:=Lib.hid (anw w2 #[.int .u8 x.id.pid.author.toNat,.int .u16 x.id.pid.seq.toNat,.int .u8 x.id.n.toNat,.int .u8 x.kind.toNat,.int .u8 x.file.pid.author.toNat,.int .u16 x.file.pid.seq.toNat,.int .u8 x.file.n.toNat,.string x.text,.bool x.dead] 88)
   have HB3a:=Lib.hid (bnew (w:=w2) (.cells #[.int .u8 x.id.pid.author.toNat,.int .u16 x.id.pid.seq.toNat,.int .u8 x.id.n.toNat,.int .u8 x.kind.toNat,.int .u8 x.file.pid.author.toNat,.int .u16 x.file.pid.seq.toNat,.int .u8 x.file.n.toNat,.string x.text,.bool x.dead] 88))
   generalize hw3:w2.alloc (.cells #[.int .u8 x.id.pid.author.toNat,.int .u16 x.id.pid.seq.toNat,.int .u8 x.id.n.toNat,.int .u8 x.kind.toNat,.int .u8 x.file.pid.author.toNat,.int .u16 x.file.pid.seq.toNat,.int .u8 x.file.n.toNat,.string x.text,.bool x.dead] 88)=w3 at *
   clear hw3
   have HB3:=Lib.hid (bov HB2.out HB2.out.size HB3a.out)
   have HM3:=Lib.hid (HM2.out.over HB3a.out)
   have hB3:=HB3.out.size
   have y0:=HA3.out.cell (j:=0) rfl
   have y1:=HA3.out.cell (j:=1) rfl
   have y2:=HA3.out.cell (j:=2) rfl
   have y3:=HA3.out.cell (j:=3) rfl
   have y4:=HA3.out.cell (j:=4) rfl
   have y5:=HA3.out.cell (j:=5) rfl
   have y6:=HA3.out.cell (j:=6) rfl
   have y7:=HA3.out.cell (j:=7) rfl
   have y8:=HA3.out.cell (j:=8) rfl
   have sy:=HA3.out.lt
   go_wp2_with (at_builtin;refine apD slStrE rfl _ _ rfl w.heap.size _ _ (drf _) 1 _ _ _ HM3.out rfl rfl rfl rfl hN (by decide) hB3 ?_;intro v9 w9 ho9 hg9)
   go_roundw
   case rel=>exact⟨k+1,hlt,by go_num,(by show GOwn _ _ _ _ _ _ _;rw [HSu.out];exact GOwn.snoc ho9),bgr HB3.out hB3 HM3.out hg9⟩
   case measure=>simp [intOf];omega
  ·
   obtain rfl:k=is'.length:=by omega
   have HE:=HM.out
   rw [textsTo_all] at HE
   have HE2:=Lib.hid HE
   clear HE
   go_wp2_with fail
   go_ret
   exact⟨_,rfl,HE2.out,hbl.out⟩
end Go.Proofs.YtllcipobiengiaaGreat
namespace Go.Proofs.YtllcipobiengiaaGreat
open Go Go.RowKit

def keptV1(ks:List Int):List Value:=ks.map fun x:Int=>.int .i64 x
theorem keptV1_get{ks:List Int}{k:Nat}{x:Int}(h:ks[k]? = some x):(keptV1 ks)[k]? = some (.int .i64 x):=by unfold keptV1;rw [List.getElem?_map,h];rfl
theorem keptV1_set(ks:List Int)(k:Nat)(x:Int):(keptV1 ks).set k (.int .i64 x)=keptV1 (ks.set k x):=by unfold keptV1;rw [List.map_set]
/-- the first j are -1 -/
def minus(j m:Nat):List Int:=(List.range m).map fun k=>if k<j then -1 else 0
theorem minus_len(j m:Nat):(minus j m).length=m:=by unfold minus;simp
theorem minus_get{j m k:Nat}(h:k<m):(minus j m)[k]? = some (if k<j then -1 else 0):=by unfold minus;simp [h]
theorem minus_zero(m:Nat):keptV1 (minus 0 m)=List.replicate m (.int .i64 0):=by unfold keptV1 minus;simp [List.map_const']
theorem minus_all(m:Nat):minus m m=List.replicate m (-1):=by
 refine List.ext_getElem? fun k => ?_
 by_cases h:k<m
 ·
  rw [minus_get h,List.getElem?_replicate,if_pos h,if_pos h]
 ·
  rw [List.getElem?_eq_none (by rw [minus_len];omega),List.getElem?_eq_none (by simp;omega)]
theorem minus_set{j m:Nat}(h:j<m):(minus j m).set j (-1)=minus (j+1) m:=by
 refine List.ext_getElem? fun k => ?_
 rw [List.getElem?_set,minus_len]
 by_cases hk:k<m
 ·
  rw [minus_get hk,minus_get hk]
  rcases Nat.lt_trichotomy k j with q|q|q
  ·
   rw [if_neg (by omega),if_pos q,if_pos (by omega)]
  ·
   subst q;simp [hk]
  ·
   rw [if_neg (by omega),if_neg (by omega),if_neg (by omega)]
 ·
  rw [if_neg (by omega),List.getElem?_eq_none (by rw [minus_len];omega),List.getElem?_eq_none (by rw [minus_len];omega)]
theorem slzIntE:SlZ Tryz.prog 85 3 (.int .i64 0) 8:=slZ_of Tryz.underlying85 (by kernel_rfl) rfl
def KpRes(w:World)(ks:List Int)(e:Ending)(w':World):Prop:=∃ g,e=.returned (.slice (some ⟨g,0,none⟩) ks.length ks.length)∧w.heap.size≤g∧ArrT w' g 3 (keptV1 ks)∧Below w.heap.size w w'
def K1Rel(w:World)(g m:Nat)(v15:Value)(wr:World):Prop:=∃ j:Nat,j≤m∧v15=.int .i64 j∧Hid (ArrT wr g 3 (keptV1 (minus j m)))∧Hid (Below w.heap.size w wr)
def K2Rel(w w4:World)(g m:Nat)(firm:List Nat)(ps:List (Nat × Nat))(v30:Value)(wr:World):Prop:=∃ k:Nat,k≤ps.length∧v30=.int .i64 k∧Hid (ArrT wr g 3 (keptV1 (keptTo firm (ps.take k) m)))∧Hid (w4.grownBy wr (some g))∧Hid (Below w.heap.size w wr)
theorem kp_zero(firm:List Nat)(ps:List (Nat × Nat))(m:Nat):minus m m=keptTo firm (ps.take 0) m:=by rw [minus_all,kept_zero]
theorem texts_len(l:List VertM)(is':List Nat):(is'.map (textAt l)).length=is'.length:=List.length_map ..
attribute [local irreducible] keptV1 minus keptTo textAt firmX
set_option maxHeartbeats 8000000 in
set_option maxRecDepth 100000 in
theorem ekeeps_any(s:Nat)(wv:Value)(l:List VertM)(R:List (Nat × Nat))(want:List ByteArray)(w:World)(h:ShAt w s l R)(hl:l.length≤1000)(hw:SRow w wv want)(hm:want.length≤1000) :
  Calls Tryz.prog 41 #[.pointer (some ⟨s,0,none⟩),wv] w (KpRes w (keptTo (firmX l R) (pairs ((firmX l R).map (textAt l)) want) want.length)):=by
 have HS:=Lib.hid h
 have HW:=Lib.hid hw
 obtain⟨m,hmm⟩:∃ m,m=want.length:=⟨_,rfl⟩
 obtain⟨a,cap,rfl,h1,h2,_⟩:=SRow.form hw
 unfold maxLen at h2
 rw [← hmm] at HW h1 hm ⊢
 have HM:=Lib.hid hmm
 have HZ:=Lib.hid (minus_zero m)
 have hq:8*m≤281474976710656:=by omega
 have hmx:m≤maxLen:=by unfold maxLen;omega
 have hfl:=firmX_len l R
 clear h hw hmm
 go_enter Tryz.func41,Tryz.ntmps41
 go_upto_region 2 with(at_make;refine wpList_make_zeros slzIntE rfl _ _ rfl w.heap.size m _ rfl rfl rfl hq hmx (Nat.le_refl _) ?_;intro w1 ho1 hg1)
 have HB1:=Lib.hid (grown_over' hg1 (fun g hg=>by cases hg))
 obtain⟨hA,_⟩:=own_full ho1
 obtain⟨g,hg⟩:∃ g,g=w.heap.size:=⟨_,rfl⟩
 rw [← hg] at hA ⊢
 rw [← HZ.out] at hA
 have HA:=Lib.hid hA
 have hgl:w.heap.size≤g:=by omega
 clear hA ho1 hg1 hg
 go_wp2_with fail
 go_loopw [15] (fun v15 wr=>K1Rel w g m v15 wr) (fun v15 _=>m - (intOf v15).toNat)
 case atStart=>exact⟨0,by omega,rfl,HA,HB1⟩
 case round =>
  obtain⟨j,hj,rfl,HA2,HB2⟩:=hrel
  rename World=>wr
  have sg:=HA2.out.arr.lt
  have HL2:=Lib.hid (minus_len j m)
  by_cases hlt:j<m
  ·
   have c0:=HA2.out.arr.cell (keptV1_get (minus_get (j:=j) hlt))
   have f0:=HA2.out.arr.free j
   have HA3:=Lib.hid (HA2.out.set j (.int .i64 (-1)))
   rw [keptV1_set,minus_set hlt] at HA3
   have HB3:=Lib.hid (HB2.out.setCell (p:=⟨g,j,none⟩) hgl (.int .i64 (-1)))
   go_wp2_with fail
   go_roundw
   case rel=>exact⟨j+1,hlt,by go_num,HA3,HB3⟩
   case measure=>simp [intOf];omega
  ·
   obtain rfl:m=j:=by omega
   have HS3:=Lib.hid (HS.out.over HB2.out)
   have sg0:=sg
   clear sg
   go_wp2_with fail
   refine(efirm_any s l R _ HS3.out (by omega)).mono ?_
   rintro e w3 ⟨fv,rfl,ho3,hb3⟩
   obtain⟨a3,c3,rfl,z1,z2,hcf⟩:=irow_at ho3.row
   unfold maxLen at z2
   have HFR:=Lib.hid ho3.row
   have HFO:=Lib.hid ho3
   have hgB:=sg0
   have HCF:=Lib.hid hcf
   have HB3:=Lib.hid (bov HB2.out HB2.out.size hb3)
   have HA3:=Lib.hid (HA2.out.over hb3)
   clear ho3 hcf hb3
   go_wp2_with fail
   refine(etexts_any s _ l R (firmX l R) _ (HS.out.over HB3.out) HFR.out (fun i hi=>firmX_lt hi) (by omega)).mono ?_
   rintro e w4 ⟨tv,rfl,ho4,hb4⟩
   have HT4:=Lib.hid (srow_of ho4.row)
   have HB4:=Lib.hid (bov HB3.out HB3.out.size hb4)
   have HA4:=Lib.hid (HA3.out.over hb4)
   have HB34:=Lib.hid hb4
   clear ho4 hb4
   go_wp2_with fail
   refine(match_any _ _ ((firmX l R).map (textAt l)) want _ HT4.out (by(have:=(HW.out.over HB4.out);exact this)) (by rw [texts_len];omega) (by rw [← HM.out];exact hm)).mono ?_
   rintro e w5 ⟨mv,Bm,rfl,ho5,hB1,hB2,hb5⟩
   have HPI:Hid (∀ p∈pairs ((firmX l R).map (textAt l)) want,p.1<(firmX l R).length∧p.2<m):=fun p hp=>by
    obtain⟨q1,q2,_⟩:=ePairs_in hp
    rw [texts_len] at q1
    exact⟨q1,by rw [HM.out];exact q2⟩
   obtain⟨ps,hps⟩:∃ ps,ps=pairs ((firmX l R).map (textAt l)) want:=⟨_,rfl⟩
   rw [← hps] at ho5 HPI ⊢
   have HO5:=Lib.hid (show GOwn encP 2 114 w5 Bm mv ps from ho5)
   have HB5:=Lib.hid (bov HB4.out HB4.out.size hb5)
   have HA5:=Lib.hid (HA4.out.over hb5)
   have HFO5:=Lib.hid ((HFO.out.over HB34.out).over hb5)
   obtain⟨a5,c5,rfl,y1,y2,_⟩:=prow_at HO5.out.row
   unfold maxLen at y2
   have HPS:=Lib.hid hps
   clear ho5 hb5 hps hB1 hB2
   go_wp2_with fail
   go_loopw [30] (fun v30 wq=>K2Rel w w5 g m (firmX l R) ps v30 wq) (fun v30 _=>ps.length - (intOf v30).toNat)
   case atStart=>exact⟨0,by omega,rfl,Lib.hid (by rw [← kp_zero];exact HA5.out),World.grownBy.refl _ _,HB5⟩
   case round =>
    obtain⟨k,hk,rfl,HA6,HG6,HB6⟩:=hrel
    rename World=>wq
    have HO6:=Lib.hid (own_kept HO5.out HG6.out (HA5.out.ne HO5.out (by decide)))
    have HFO6:=Lib.hid (own_kept HFO5.out HG6.out (fun e=>by have:=gown_low HFO5.out e.symm;omega))
    by_cases hlt:k<ps.length
    ·
     obtain⟨a7,c7,e7,_,_,hc7⟩:=prow_at HO6.out.row
     cases e7
     obtain⟨b7,off7,rfl,sb7,hcb7⟩:=hc7.resolve_left (by omega)
     obtain⟨p,hp⟩:=gol hlt
     obtain⟨hp1,hp2⟩:=HPI.out p (List.mem_of_getElem? hp)
     have HP:=Lib.hid (kept_succ (firm:=firmX l R) (m:=m) hp)
     obtain⟨sx,x0,x1⟩:=hcb7 k p hp _ (Below.refl _ _)
     obtain⟨ip,jp⟩:=p
     simp only at hp1 hp2 x0 x1
     obtain⟨fi,hfi⟩:=gol hp1
     have HFI:=Lib.hid hfi
     clear hcb7 hp
     go_upto_region 11 with(fail)
     have HA8:=Lib.hid (anw wq #[.int .i64 ip,.int .i64 jp] 114)
     have HB8a:=Lib.hid (bnew (w:=wq) (.cells #[.int .i64 ip,.int .i64 jp] 114))
     generalize hw8:wq.alloc (.cells #[.int .i64 ip,.int .i64 jp] 114)=w8 at *
     clear hw8 x0 x1 sx
     have HAg:=Lib.hid (HA6.out.over HB8a.out)
     have HFO8:=Lib.hid (HFO6.out.over HB8a.out)
     have HB8:=Lib.hid (bov HB6.out HB6.out.size HB8a.out)
     have HG8:=Lib.hid (gtr HG6.out (grown_of_below HB8a.out (row:=some g)))
     obtain⟨af,cf,ef,_,_,hcf2⟩:=irow_at HFO8.out.row
     cases ef
     obtain⟨bf,offf,rfl,sbf,hcbf⟩:=hcf2.resolve_left (by omega)
     obtain⟨sf,f0⟩:=hcbf ip fi hfi _ (Below.refl _ _)
     have p0:=HA8.out.cell (j:=0) rfl
     have p1:=HA8.out.cell (j:=1) rfl
     have sp:=HA8.out.lt
     have hkl:=kept_length (firmX l R) (ps.take k) m
     obtain⟨y,hy⟩:=gol (xs:=keptTo (firmX l R) (ps.take k) m) (i:=jp) (by rw [hkl];exact hp2)
     have g0:=HAg.out.arr.cell (keptV1_get hy)
     have gf:=HAg.out.arr.free jp
     have sg:=HAg.out.arr.lt
     have HN:=Lib.hid (HAg.out.set jp (.int .i64 fi))
     rw [keptV1_set,show((fi:Nat):Int)=(((firmX l R).getD (ip,jp).1 0:Nat):Int) by rw [getD_of hfi]] at HN
     rw [← HP.out] at HN
     have HBn:=Lib.hid (HB8.out.setCell (p:=⟨g,jp,none⟩) hgl (.int .i64 fi))
     have HGn:=Lib.hid (gtr HG8.out (gsc (g:=g) w8 jp (.int .i64 fi)))
     have HEq:Hid ((((firmX l R).getD (ip,jp).1 0:Nat):Int)=(fi:Int)):=by show _=_;rw [getD_of hfi]
     rw [HEq.out] at HN
     clear hcbf hfi hy hkl hcf2
     go_wp2_with fail
     have hcur:Below w8.heap.size w8 w8.drew:=(Below.refl _ _).drew
     refine wlex (C:=IsOver w8) 9 [] (by kernel_rfl) (by kernel_rfl) (iov hcur) ?_
     simp only [List.take_succ_cons,List.take_zero,List.drop_succ_cons,List.drop_zero]
     repeat(first|(refine lxs rfl rfl ?_;simp only [Act.put,List.setIfInBounds_toArray,List.set_cons_succ,List.set_cons_zero])|(refine lxo rfl ?_;go_big_quiet_step (fail);refine wpQuiet_nil ?_)|(refine lxl rfl ?_;go_wp2_with (first|(fail));refine⟨iov hcur,?_⟩))
     refine lxe ?_
     clear hcur
     go_wp2_with fail
     go_roundw
     case rel=>exact⟨k+1,hlt,by go_num,Lib.hid (HN.out.over (Below.refl _ _).drew),Lib.hid (gtr HGn.out (grown_of_below (Below.refl _ _).drew)),Lib.hid HBn.out.drew⟩
     case measure=>simp [intOf];omega
    ·
     obtain rfl:k=ps.length:=by omega
     have HE:=HA6.out
     rw [List.take_length] at HE
     have HE2:=Lib.hid HE
     have HKL:=Lib.hid (kept_length (firmX l R) ps m)
     clear HE
     go_wp2_with fail
     go_ret
     refine⟨g,?_,hgl,(by rw [← HPS.out];exact HE2.out),HB6.out⟩
     rw [← HPS.out,HKL.out];rfl
end Go.Proofs.YtllcipobiengiaaGreat
namespace Go.Proofs.YtllcipobiengiaaGreat
open Go Go.RowKit

theorem numV_inj(x y:Int)(h:numV x=numV y):x=y:=by unfold numV at h;cases h;rfl
theorem zero_numV(u:World):(zeroValue 3).run Tryz.prog u=.ok (numV 0) u:=by kernel_rfl
def hereF(ks:List Int)(k:Nat):Int→Option Int:=fun x=>if x∈ks.take k then some 1 else none
theorem hereF_zero(ks:List Int):hereF ks 0=fun _=>none:=by funext x;simp [hereF]
theorem hereF_succ{ks:List Int}{k:Nat}{x:Int}(h:ks[k]? = some x):updM (hereF ks k) x 1=hereF ks (k+1):=by
 funext y
 have e:(y∈ks.take (k+1))↔(y∈ks.take k∨y=x):=by rw [take_one h];simp
 unfold updM hereF
 by_cases h1:y=x
 ·
  rw [if_pos h1,if_pos (e.2 (.inr h1))]
 ·
  by_cases h2:y∈ks.take k
  ·
   rw [if_neg h1,if_pos h2,if_pos (e.2 (.inl h2))]
  ·
   rw [if_neg h1,if_neg h2,if_neg (fun q=>(e.1 q).elim h2 h1)]
theorem hereF_yes{ks:List Int}{x:Int}(h:ks.contains x=true):numV ((hereF ks ks.length x).getD 0)=.int .i64 1:=by
 unfold hereF;rw [List.take_length,if_pos (by simpa using h)];rfl
theorem hereF_no{ks:List Int}{x:Int}(h:ks.contains x=false):numV ((hereF ks ks.length x).getD 0)=.int .i64 0:=by
 unfold hereF;rw [List.take_length,if_neg (by simpa using h)];rfl
theorem killV5_at{l:List VertM}{i:Nat}{x:VertM}(h:l[i]? = some x):killV5 l i=⟨5,x.id,noVid,⟨#[]⟩⟩:=by unfold killV5;rw [getD_of h]
def I1Rel(w0:World)(m:Nat)(ks:List Int)(v16:Value)(wr:World):Prop:=∃ k N:Nat,k≤ks.length∧N≤k∧v16=.int .i64 k∧Hid (TMap Tryz.prog 3 numV okInt numV wr m N (hereF ks k))∧Hid (Below w0.heap.size w0 wr)
def I2Rel(w1:World)(l:List VertM)(al:List Nat)(ks:List Int)(v8 v26:Value)(wr:World):Prop:=∃ k:Nat,k≤al.length∧v26=.int .i64 k∧Hid (GOwn encOp 8 58 wr w1.heap.size v8 (killsE l (al.take k) ks))∧Hid (Below w1.heap.size w1 wr)
attribute [local irreducible] hereF killsE keptV1 aliveX killV5
set_option maxHeartbeats 8000000 in
set_option maxRecDepth 100000 in
theorem ekills_any(s g:Nat)(l:List VertM)(R:List (Nat × Nat))(ks:List Int)(w:World)(h:ShAt w s l R)(hl:l.length≤1000)(hk:ArrT w g 3 (keptV1 ks))(hok:∀ x∈ks,okInt x)(hkl:ks.length≤1000) :
  Calls Tryz.prog 42 #[.pointer (some ⟨s,0,none⟩),.slice (some ⟨g,0,none⟩) ks.length ks.length] w (OwnRes encOp 8 58 w (killsE l (aliveX l R) ks)):=by
 have hmm:=@run_makeMap Tryz.prog
 have HS:=Lib.hid h
 have HK:=Lib.hid hk
 have HOK:=Lib.hid hok
 have hal:=aliveX_len l R
 have HT0:=Lib.hid (show TMap Tryz.prog 3 numV okInt numV (w.alloc (.map #[] 0)) w.heap.size 0 (hereF ks 0) by rw [hereF_zero];exact TMap.made w)
 have HB0:=Lib.hid (bnew (w:=w) (.map #[] 0))
 clear h hk hok
 go_enter Tryz.func42,Tryz.ntmps42
 go_upto_region 2 with(fail)
 clear hmm
 obtain⟨m,hm⟩:∃ m,m=w.heap.size:=⟨_,rfl⟩
 rw [← hm]
 have HT1:=HT0.out
 have hml:w.heap.size≤m:=by omega
 rw [← hm] at HT1
 have HT:=Lib.hid HT1
 generalize hw0:w.alloc (.map #[] 0)=w0 at *
 clear hw0 hm HT1 HT0
 go_wp2_with fail
 go_loopw [16] (fun v16 wr=>I1Rel w m ks v16 wr) (fun v16 _=>ks.length - (intOf v16).toNat)
 case atStart=>exact⟨0,0,by omega,by omega,rfl,HT,HB0⟩
 case round =>
  obtain⟨k,N,hk,hN,rfl,HM,HB⟩:=hrel
  rename World=>wr
  have HKr:=Lib.hid (HK.out.over HB.out)
  have sg:=HKr.out.arr.lt
  by_cases hlt:k<ks.length
  ·
   obtain⟨x,hx⟩:=gol hlt
   have c0:=HKr.out.arr.cell (keptV1_get hx)
   have HO:=Lib.hid (HOK.out x (List.mem_of_getElem? hx))
   have HSu:=Lib.hid (hereF_succ hx)
   clear hx
   go_wp2_with (refine wpList_tstore keysInt numV_inj rfl _ _ _ _ rfl Tryz.underlying158 m N (hereF ks k) rfl HM.out (by unfold maxLen;omega) x rfl HO.out 1 rfl ?_;intro w10 hm10 hg10 hs10;clear hs10)
   rw [HSu.out] at hm10
   have HM2:=Lib.hid hm10
   have HBn:=Lib.hid (HB.out.grown hg10 HB.out.size fun q hq=>by cases hq;exact hml)
   go_roundw
   case rel=>exact⟨k+1,N+1,hlt,by omega,by go_num,HM2,HBn⟩
   case measure=>simp [intOf];omega
  ·
   obtain rfl:k=ks.length:=by omega
   clear sg
   go_wp2_with fail
   refine(salive_any s l R _ (HS.out.over HB.out) (by omega)).mono ?_
   rw [sares_is]
   rintro e w1 ⟨v,rfl,ho,hb⟩
   obtain⟨a,cap,rfl,h1,h2,hc⟩:=irow_at ho.row
   unfold maxLen at h2
   have HC:=Lib.hid hc
   have HB1:=Lib.hid (bov HB.out HB.out.size hb)
   have HM1:=Lib.hid (HM.out.over hb)
   have HAL:Hid (∀ i∈aliveX l R,i<l.length):=fun i hi=>aliveX_lt hi
   clear ho hc hb
   generalize aliveX l R=al at *
   go_wp2_with fail
   go_loopw [8,26] (fun v8 v26 wq=>I2Rel w1 l al ks v8 v26 wq) (fun _ v26 _=>al.length - (intOf v26).toNat)
   case atStart=>exact⟨0,by omega,rfl,Lib.hid (by rw [kills_zero];exact gown_nil _ _),Below.refl _ _⟩
   case round =>
    obtain⟨q,hq,rfl,HO,hbl⟩:=hrel
    rename World=>wq
    have hkl2:=kills_len l ks (al.take q)
    have hkl3:(al.take q).length≤al.length:=by rw [List.length_take];omega
    by_cases hlt:q<al.length
    ·
     obtain⟨b,off,rfl,sb,hcb⟩:=HC.out.resolve_left (by omega)
     obtain⟨i,hi⟩:=gol hlt
     obtain⟨sx,x0⟩:=hcb q i hi _ hbl.out
     obtain⟨x,hx⟩:=gol (HAL.out i (List.mem_of_getElem? hi))
     have HX:=Lib.hid hx
     have HI:=Lib.hid hi
     have HKV:=Lib.hid (killV5_at hx)
     have hil:=(List.getElem?_eq_some_iff.1 hx).1
     have HOi:=Lib.hid (ok_int (i:=i) (by omega))
     clear hcb hi hx
     go_wp2_with fail
     refine(svert_any s i x l R _ (HS.out.over (bov HB1.out HB1.out.size hbl.out)) HX.out).mono ?_
     rintro e w2 ⟨rfl,hb2⟩
     have HB2:=Lib.hid (bov hbl.out hbl.out.size hb2)
     have HO2:=Lib.hid (HO.out.over hb2)
     clear hb2 x0 sx
     go_upto_region 12 with(fail)
     have HA3:=Lib.hid (anw w2 #[.int .u8 x.id.pid.author.toNat,.int .u16 x.id.pid.seq.toNat,.int .u8 x.id.n.toNat,.int .u8 x.kind.toNat,.int .u8 x.file.pid.author.toNat,.int .u16 x.file.pid.seq.toNat,.int .u8 x.file.n.toNat,.string x.text,.bool x.dead] 88)
     have HB3a:=Lib.hid (bnew (w:=w2) (.cells #[.int .u8 x.id.pid.author.toNat,.int .u16 x.id.pid.seq.toNat,.int .u8 x.id.n.toNat,.int .u8 x.kind.toNat,.int .u8 x.file.pid.author.toNat,.int .u16 x.file.pid.seq.toNat,.int .u8 x.file.n.toNat,.string x.text,.bool x.dead] 88))
     generalize hw3:w2.alloc (.cells #[.int .u8 x.id.pid.author.toNat,.int .u16 x.id.pid.seq.toNat,.int .u8 x.id.n.toNat,.int .u8 x.kind.toNat,.int .u8 x.file.pid.author.toNat,.int .u16 x.file.pid.seq.toNat,.int .u8 x.file.n.toNat,.string x.text,.bool x.dead] 88)=w3 at *
     clear hw3
     have HB3:=Lib.hid (bov HB2.out HB2.out.size HB3a.out)
     have HO3:=Lib.hid (HO2.out.over HB3a.out)
     have HM3:=Lib.hid (HM1.out.over HB3.out)
     have hB3:=HB3.out.size
     have y0:=HA3.out.cell (j:=0) rfl
     have y1:=HA3.out.cell (j:=1) rfl
     have y2:=HA3.out.cell (j:=2) rfl
     have y3:=HA3.out.cell (j:=3) rfl
     have y4:=HA3.out.cell (j:=4) rfl
     have y5:=HA3.out.cell (j:=5) rfl
     have y6:=HA3.out.cell (j:=6) rfl
     have y7:=HA3.out.cell (j:=7) rfl
     have y8:=HA3.out.cell (j:=8) rfl
     have sy:=HA3.out.lt
     cases hcn:ks.contains (Int.ofNat i) with
     | true =>
      have HLK:=Lib.hid (hereF_yes hcn)
      have HN:=Lib.hid (kills_no (l:=l) HI.out hcn)
      clear hcn
      go_wp2_with (refine wpList_tlookV keysInt numV_inj rfl _ _ _ rfl Tryz.underlying158 0 (zero_numV _) m N (hereF ks ks.length) rfl HM3.out (i:Int) rfl HOi.out _ HLK.out ?_)
      go_roundw
      case rel=>exact⟨q+1,hlt,by go_num,(by show GOwn _ _ _ _ _ _ _;rw [HN.out];exact HO3.out),HB3⟩
      case measure=>simp [intOf];omega
     | false =>
      have HLK:=Lib.hid (hereF_no hcn)
      have HN:=Lib.hid (kills_yes (l:=l) HI.out hcn)
      have hN3:(killsE l (al.take q) ks).length+1≤1099511627776:=by omega
      clear hcn
      go_wp2_with (first|(refine wpList_tlookV keysInt numV_inj rfl _ _ _ rfl Tryz.underlying158 0 (zero_numV _) m N (hereF ks ks.length) rfl HM3.out (i:Int) rfl HOi.out _ HLK.out ?_)|(at_builtin;refine apD slOp rfl _ _ rfl w1.heap.size _ _ (drf _) 1 _ _ _ HO3.out rfl rfl rfl rfl hN3 (by decide) hB3 ?_;intro v9 w9 ho9 hg9))
      go_roundw
      case rel=>exact⟨q+1,hlt,by go_num,(by show GOwn _ _ _ _ _ _ _;rw [HN.out,HKV.out];exact GOwn.snoc ho9),bgr HB3.out hB3 HO3.out hg9⟩
      case measure=>simp [intOf];omega
    ·
     obtain rfl:q=al.length:=by omega
     have HE:=HO.out
     rw [List.take_length] at HE
     have HE2:=Lib.hid (HE.base HB1.out.size)
     clear HE
     go_wp2_with fail
     go_ret
     exact⟨_,rfl,HE2.out,bov HB1.out HB1.out.size hbl.out⟩
end Go.Proofs.YtllcipobiengiaaGreat
