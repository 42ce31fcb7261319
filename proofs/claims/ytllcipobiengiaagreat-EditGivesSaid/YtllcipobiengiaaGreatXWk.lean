/- Contracts of a sheet's Len, Rel, Vert, Order, Alive, Firm. Contracts of edit.firm, texts. Contract of edit.keeps. Contract of edit.kills. Contracts of slices.IndexFunc and DeleteFunc at vertices, names.Of. Contract of edit.Ops. Contracts of law27.Ops, few. How much a few patches make: what EditKeeps wants, too. Contract of patch.Make, of a patch that may be. The example of layer 27, plain. Contract of the example of layer 27. -/
import Derived.Test.YtllcipobiengiaaGreatXLinB
import Derived.Test.YtllcipobiengiaaGreatXRefP
set_option linter.unusedVariables false
set_option linter.unusedSimpArgs false
namespace Go.Proofs.YtllcipobiengiaaGreat
open Go Go.RowKit

/-- the sheet's block, and what it leads to -/
structure ShLook (w:World) (s:Nat) (l:List VertM) (R:List (Nat × Nat)) (lp:Option Addr) (lc r:Nat) (op:Option Addr) (oc:Nat):Prop where
 arr:Arr w s [.slice lp l.length lc,.pointer (some ⟨r,0,none⟩),.slice op l.length oc]
 row:GRow encVert 9 w (.slice lp l.length lc) l
 rel:RelAt w r l.length R
 ord:GRow encI 1 w (.slice op l.length oc) (orderM R l.length)
theorem ShAt.look{w:World}{s:Nat}{l:List VertM}{R:List (Nat × Nat)}(h:ShAt w s l R):∃ lp lc r op oc,ShLook w s l R lp lc r op oc:=by
 obtain⟨lp,lc,r,op,oc,h1,h2,h3,h4⟩:=h
 exact⟨lp,lc,r,op,oc,h1,h2,h3,h4⟩
theorem ShLook.over{w w':World}{s:Nat}{l:List VertM}{R:List (Nat × Nat)}{lp op:Option Addr}{lc r oc:Nat}(h:ShLook w s l R lp lc r op oc)(hb:Below w.heap.size w w'):ShLook w' s l R lp lc r op oc:=⟨h.arr.over hb,h.row.over hb,h.rel.over hb,h.ord.over hb⟩
attribute [local irreducible] orderM
set_option maxHeartbeats 8000000 in
set_option maxRecDepth 100000 in
theorem slen_any(s:Nat)(l:List VertM)(R:List (Nat × Nat))(w:World)(h:ShAt w s l R):Calls Tryz.prog 81 #[.pointer (some ⟨s,0,none⟩)] w fun e w'=>e=.returned (.int .i64 l.length)∧w'=w:=by
 obtain⟨lp,lc,r,op,oc,hL⟩:=h.look
 have s0:=hL.arr.cell (j:=0) rfl
 have ss:=hL.arr.lt
 clear h hL
 go_enter Tryz.func81,Tryz.ntmps81
 go_wp2_with fail
 go_ret
 exact⟨rfl,rfl⟩
set_option maxHeartbeats 8000000 in
set_option maxRecDepth 100000 in
theorem srel_any(s:Nat)(l:List VertM)(R:List (Nat × Nat))(w:World)(h:ShAt w s l R):Calls Tryz.prog 43 #[.pointer (some ⟨s,0,none⟩)] w fun e w'=>(∃ r,e=.returned (.pointer (some ⟨r,0,none⟩))∧RelAt w r l.length R)∧w'=w:=by
 obtain⟨lp,lc,r,op,oc,hL⟩:=h.look
 have s1:=hL.arr.cell (j:=1) rfl
 have ss:=hL.arr.lt
 have HR:=Lib.hid hL.rel
 clear h hL
 go_enter Tryz.func43,Tryz.ntmps43
 go_wp2_with fail
 go_ret
 exact⟨⟨r,rfl,HR.out⟩,rfl⟩
def SvRes(w:World)(x:VertM)(e:Ending)(w':World):Prop:=e=.returned (.tuple #[vertV x,.bool true])∧Below w.heap.size w w'
theorem svres_mk{w w':World}{x:VertM}(h:Below w.heap.size w w'):SvRes w x (.returned (.tuple #[vertV x,.bool true])) w':=⟨rfl,h⟩
set_option maxHeartbeats 8000000 in
set_option maxRecDepth 100000 in
theorem svert_any(s i:Nat)(x:VertM)(l:List VertM)(R:List (Nat × Nat))(w:World)(h:ShAt w s l R)(hx:l[i]? = some x):Calls Tryz.prog 35 #[.pointer (some ⟨s,0,none⟩),.int .i64 i] w (SvRes w x):=by
 have hi:=(List.getElem?_eq_some_iff.1 hx).1
 have HH:=Lib.hid (h.over (below_new (w:=w) (.cells #[.int .u8 0,.int .u16 0,.int .u8 0,.int .u8 0,.int .u8 0,.int .u16 0,.int .u8 0,.string ⟨#[]⟩,.bool false] 88)))
 have HR:=Lib.hid (arr_new w #[.int .u8 0,.int .u16 0,.int .u8 0,.int .u8 0,.int .u8 0,.int .u16 0,.int .u8 0,.string ⟨#[]⟩,.bool false] 88)
 have HB:=Lib.hid (below_new (w:=w) (.cells #[.int .u8 0,.int .u16 0,.int .u8 0,.int .u8 0,.int .u8 0,.int .u16 0,.int .u8 0,.string ⟨#[]⟩,.bool false] 88))
 have d1:decide ((l.length:Int)≤(i:Int))=false:=by simp;omega
 have d2:decide (l.length≤i)=false:=by simp;omega
 have HX:=Lib.hid hx
 clear h hx
 go_enter Tryz.func35,Tryz.ntmps35
 go_upto_region 1 with(fail)
 generalize hw0:w.alloc (.cells #[.int .u8 0,.int .u16 0,.int .u8 0,.int .u8 0,.int .u8 0,.int .u16 0,.int .u8 0,.string ⟨#[]⟩,.bool false] 88)=w0 at *
 clear hw0
 go_wp2_with fail
 refine(slen_any s l R _ HH.out).mono ?_
 rintro e w1 ⟨rfl,hw⟩
 obtain rfl:=hw.symm
 obtain⟨lp,lc,r,op,oc,hL⟩:=HH.out.look
 have s0:=hL.arr.cell (j:=0) rfl
 have ss:=hL.arr.lt
 obtain⟨a,cap,e1,z1,z2,hc⟩:=hL.row.at encVert_len
 cases e1
 obtain⟨b,off,rfl,sb,hcb⟩:=hc.resolve_left (by omega)
 have HRx:=Lib.hid (hcb i x HX.out w0 (Below.refl _ _))
 have x0:w0.cell? ⟨b,off+i*9,none⟩=some (.int .u8 x.id.pid.author.toNat):=(HRx.out).2 0 _ rfl
 have x1:w0.cell? ⟨b,off+i*9+1,none⟩=some (.int .u16 x.id.pid.seq.toNat):=(HRx.out).2 1 _ rfl
 have x2:w0.cell? ⟨b,off+i*9+2,none⟩=some (.int .u8 x.id.n.toNat):=(HRx.out).2 2 _ rfl
 have x3:w0.cell? ⟨b,off+i*9+3,none⟩=some (.int .u8 x.kind.toNat):=(HRx.out).2 3 _ rfl
 have x4:w0.cell? ⟨b,off+i*9+4,none⟩=some (.int .u8 x.file.pid.author.toNat):=(HRx.out).2 4 _ rfl
 have x5:w0.cell? ⟨b,off+i*9+5,none⟩=some (.int .u16 x.file.pid.seq.toNat):=(HRx.out).2 5 _ rfl
 have x6:w0.cell? ⟨b,off+i*9+6,none⟩=some (.int .u8 x.file.n.toNat):=(HRx.out).2 6 _ rfl
 have x7:w0.cell? ⟨b,off+i*9+7,none⟩=some (.string x.text):=(HRx.out).2 7 _ rfl
 have x8:w0.cell? ⟨b,off+i*9+8,none⟩=some (.bool x.dead):=(HRx.out).2 8 _ rfl
 have sx:=HRx.out.1
 unfold maxLen at z2
 clear hcb hc hL
 go_wp2_with ((with_reducible show wpList _ _ _ ({dst:=_,op:=.store _ _ _,type:=_,pos:=_,after:=_,guard:=_} :: _) _ _);refine wpList_store_arr rowVert rfl _ _ rfl _ _ (encVert x) HR.out rfl rfl rfl rfl rfl ?_)
 exact bodyPost_ret (v:=.tuple #[vertV x,.bool true]) (results_arr_slot rowVert rfl (HR.out.row (encVert x)) rfl rfl rfl) rfl (svres_mk (below_setRow HB.out (Nat.le_refl _) _))

/-! ### rows of numbers -/
set_option maxHeartbeats 8000000 in
set_option maxRecDepth 100000 in
theorem iclone_any(v:Value)(xs:List Nat)(w:World)(hv:GRow encI 1 w v xs)(hl:xs.length≤1000000):Calls Tryz.prog 125 #[v] w (OwnRes encI 1 3 w xs):=by
 obtain⟨a,cap,rfl,h1,h2,hc⟩:=irow_at hv
 unfold maxLen at h2
 cases a with
 | none =>
  have h0:xs=[]:=by
   rcases hc with h0|⟨b,off,e,_⟩
   ·
    exact List.eq_nil_of_length_eq_zero h0
   ·
    cases e
  have HX:=Lib.hid h0
  have hl0:xs.length=0:=by rw [h0];rfl
  have hkn:=fun w=>Lib.run_eql_slice_nil (P:=Tryz.prog) w 85 3 none 0 cap 0 0 Tryz.underlying85
  clear hv hc h0
  go_enter Tryz.func125,Tryz.ntmps125
  go_wp2_with fail
  go_ret
  exact⟨_,rfl,(by rw [HX.out];exact gown_nil _ _),Below.refl _ _⟩
 | some p =>
  have HV:=Lib.hid hv
  have hN:0+xs.length≤1099511627776:=by omega
  have hkn:=fun w=>Lib.run_eql_slice_nil (P:=Tryz.prog) w 85 3 (some p) xs.length cap 0 0 Tryz.underlying85
  clear hv hc
  go_enter Tryz.func125,Tryz.ntmps125
  go_wp2_with (at_builtin;refine wpList_append_old slIntI rfl _ _ rfl w.heap.size (.slice (some ⟨w.heap.size,0,none⟩) 0 0) 0 [] (own_lit0 w _ 1 w.heap.size (Nat.le_refl _)) rfl (.slice (some p) xs.length cap) xs.length (xs.flatMap encI) (HV.out.over (below_new _)) rfl (oneInts xs) hN (by decide) (by simp) ?_;intro v9 w9 ho9 hg9;have HO9:=Lib.hid (show GOwn encI 1 3 w9 w.heap.size v9 xs by(have:=ho9;rw [Nat.zero_add,List.nil_append] at this;exact this));have HB9:=Lib.hid (below_grown (below_new (w:=w) (.cells #[] 3)) (by simp) (own_lit0 w 3 1 w.heap.size (Nat.le_refl _)) hg9);clear ho9 hg9)
  go_ret
  exact⟨_,rfl,HO9.out,HB9.out⟩
set_option maxHeartbeats 8000000 in
set_option maxRecDepth 100000 in
theorem sorder_any(s:Nat)(l:List VertM)(R:List (Nat × Nat))(w:World)(h:ShAt w s l R)(hl:l.length≤65536):Calls Tryz.prog 79 #[.pointer (some ⟨s,0,none⟩)] w (OwnRes encI 1 3 w (orderM R l.length)):=by
 obtain⟨lp,lc,r,op,oc,hL⟩:=h.look
 have s2:=hL.arr.cell (j:=2) rfl
 have ss:=hL.arr.lt
 have HO:=Lib.hid hL.ord
 have hol:(orderM R l.length).length≤1000000:=by rw [orderM_len];omega
 clear h hL
 go_enter Tryz.func79,Tryz.ntmps79
 go_wp2_with fail
 refine(iclone_any _ _ _ HO.out hol).mono ?_
 rintro e w1 ⟨v,rfl,ho,hb⟩
 have HO1:=Lib.hid ho
 have HB1:=Lib.hid hb
 clear ho hb
 go_wp2_with fail
 go_ret
 exact⟨_,rfl,HO1.out,HB1.out⟩

/-! ### what is alive -/
def deadQL(l:List VertM)(i:Nat):Bool:=deadLine l i
def aliveQL(l:List VertM)(i:Nat):Bool := !deadLine l i
theorem deadQL_at{l:List VertM}{i:Nat}{x:VertM}(h:l[i]? = some x):deadQL l i=x.dead:=by unfold deadQL deadLine;rw [h]
def keptI(l:List VertM)(xs:List Nat)(j:Nat):List Nat:=(xs.take j).filter (aliveQL l)
theorem keptI_yes{l:List VertM}{xs:List Nat}{j u:Nat}(h:xs[j]? = some u)(hd:deadQL l u=false):keptI l xs (j+1)=keptI l xs j++[u]:=by
 unfold keptI;rw [take_one h,List.filter_append]
 unfold deadQL at hd;simp [aliveQL,hd]
theorem keptI_no{l:List VertM}{xs:List Nat}{j u:Nat}(h:xs[j]? = some u)(hd:deadQL l u=true):keptI l xs (j+1)=keptI l xs j:=by
 unfold keptI;rw [take_one h,List.filter_append]
 unfold deadQL at hd;simp [aliveQL,hd]
theorem keptI_all(l:List VertM)(xs:List Nat):keptI l xs xs.length=xs.filter (aliveQL l):=by unfold keptI;rw [List.take_length]
theorem idxI_cases(l:List VertM)(xs:List Nat):(idxB (deadQL l) xs = -1∧xs.filter (aliveQL l)=xs)∨∃ k u,k<xs.length∧idxB (deadQL l) xs=(k:Int)∧xs[k]? = some u∧deadQL l u=true∧keptI l xs k=xs.take k:=by
 unfold idxB
 cases h:xs.findIdx? (deadQL l) with
 | none =>
  rw [List.findIdx?_eq_none_iff] at h
  exact .inl ⟨rfl,List.filter_eq_self.2 fun x hx=>by have:=h x hx;unfold deadQL at this;simp [aliveQL,this]⟩
 | some k =>
  rw [List.findIdx?_eq_some_iff_getElem] at h
  obtain⟨hk,h1,h2⟩:=h
  refine .inr ⟨k,xs[k],hk,rfl,List.getElem?_eq_getElem hk,h1,?_⟩
  unfold keptI
  refine List.filter_eq_self.2 fun x hx => ?_
  obtain⟨j,hj,rfl⟩:=List.mem_iff_getElem.1 hx
  rw [List.length_take] at hj
  rw [List.getElem_take]
  have:=h2 j (by omega)
  unfold deadQL at this
  simp [aliveQL];simpa using this
theorem ints_map(xs:List Nat):xs.flatMap encI=xs.map fun x:Nat=>Value.int .i64 x:=by
 induction xs with
 | nil=>rfl
 | cons x xs ih=>rw [List.flatMap_cons,ih];rfl
theorem ints_set(xs:List Nat)(k x:Nat):(xs.flatMap encI).set k (.int .i64 x)=(xs.set k x).flatMap encI:=by rw [ints_map,ints_map,List.map_set]
theorem ints_len(xs:List Nat):(xs.flatMap encI).length=xs.length:=by rw [ints_map,List.length_map]
theorem ints_get{xs:List Nat}{k x:Nat}(h:xs[k]? = some x):(xs.flatMap encI)[k]? = some (.int .i64 x):=by rw [ints_map,List.getElem?_map,h];rfl
attribute [local irreducible] idxB deadQL aliveQL keptI
set_option maxHeartbeats 8000000 in
set_option maxRecDepth 100000 in
theorem aliveFn_any(c s i:Nat)(x:VertM)(l:List VertM)(R:List (Nat × Nat))(w:World)(hc:Arr w c [.pointer (some ⟨s,0,none⟩)])(h:ShAt w s l R)(hx:l[i]? = some x) :
  Calls Tryz.prog 80 #[.int .i64 i,.pointer (some ⟨c,0,none⟩)] w fun e w'=>e=.returned (.bool (deadQL l i))∧w'=w:=by
 have hi:=(List.getElem?_eq_some_iff.1 hx).1
 have HV:=Lib.hid (deadQL_at hx)
 obtain⟨lp,lc,r,op,oc,hL⟩:=h.look
 have c0:=hc.cell (j:=0) rfl
 have sc:=hc.lt
 have s0:=hL.arr.cell (j:=0) rfl
 have ss:=hL.arr.lt
 obtain⟨a,cap,e1,z1,z2,hcl⟩:=hL.row.at encVert_len
 cases e1
 obtain⟨b,off,rfl,sb,hcb⟩:=hcl.resolve_left (by omega)
 unfold maxLen at z2
 have x8:w.cell? ⟨b,off+i*9+8,none⟩=some (.bool x.dead):=(hcb i x hx w (Below.refl _ _)).2 8 _ rfl
 clear h hL hcl hcb hx hc
 go_enter Tryz.func80,Tryz.ntmps80
 go_wp2_with fail
 go_ret
 exact⟨ret_val (congrArg Value.bool HV.out.symm),rfl⟩
set_option maxHeartbeats 8000000 in
set_option maxRecDepth 100000 in
theorem idxAl_any(v:Value)(xs:List Nat)(c s:Nat)(l:List VertM)(R:List (Nat × Nat))(w:World)(hv:GRow encI 1 w v xs)(hc:Arr w c [.pointer (some ⟨s,0,none⟩)])(h:ShAt w s l R)(hx:∀ i∈xs,i<l.length) :
  Calls Tryz.prog 124 #[v,.func (.func 80) #[] #[.pointer (some ⟨c,0,none⟩)]] w fun e w'=>e=.returned (.int .i64 (idxB (deadQL l) xs))∧w'=w:=by
 obtain⟨a,cap,rfl,h1,h2,hcr⟩:=irow_at hv
 unfold maxLen at h2
 have HC:=Lib.hid hcr
 have HS:=Lib.hid h
 have HA:=Lib.hid hc
 have HX:=Lib.hid hx
 clear hv hcr h hc hx
 go_enter Tryz.func124,Tryz.ntmps124
 go_wp2_with fail
 go_loopw [8] (fun v8 wr=>∃ k:Nat,k≤xs.length∧v8=.int .i64 k∧Hid ((xs.take k).any (deadQL l)=false)∧wr=w) (fun v8 _=>xs.length - (intOf v8).toNat)
 case atStart=>exact⟨0,by omega,rfl,(by show _=_;simp),rfl⟩
 case round =>
  obtain⟨k,hk,rfl,HK,hw⟩:=hrel
  obtain rfl:=hw
  by_cases hlt:k<xs.length
  ·
   obtain⟨b,off,rfl,sb,hcb⟩:=HC.out.resolve_left (by omega)
   obtain⟨u,hu⟩:=get_of_lt hlt
   have u0:=(hcb k u hu _ (Below.refl _ _)).2
   have HU:=Lib.hid hu
   obtain⟨x,hxu⟩:=get_of_lt (HX.out u (List.mem_of_getElem? hu))
   have HXu:=Lib.hid hxu
   clear hcb hu hxu
   cases hf:deadQL l u with
   | true =>
    have HI:=Lib.hid (idx_hit HK.out HU.out (f:=deadQL l) hf)
    have HV:=Lib.hid hf
    clear hf
    go_wp2_with fail
    refine(aliveFn_any c s u x l R _ HA.out HS.out HXu.out).mono ?_
    rintro e w1 ⟨rfl,hw⟩
    obtain rfl:=hw.symm
    rw [HV.out]
    go_wp2_with fail
    go_ret
    exact⟨ret_int HI.out.symm,rfl⟩
   | false =>
    have HI:=Lib.hid (any_step HK.out HU.out (f:=deadQL l) hf)
    have HV:=Lib.hid hf
    clear hf
    go_wp2_with fail
    refine(aliveFn_any c s u x l R _ HA.out HS.out HXu.out).mono ?_
    rintro e w1 ⟨rfl,hw⟩
    obtain rfl:=hw.symm
    rw [HV.out]
    go_wp2_with fail
    go_roundw
    case rel=>exact⟨k+1,hlt,by go_num,HI,(by first|exact rfl|trivial)⟩
    case measure=>simp [intOf];omega
  ·
   obtain rfl:k=xs.length:=by omega
   have HI:=Lib.hid (idx_miss HK.out)
   go_wp2_with fail
   go_ret
   exact⟨ret_int HI.out.symm,rfl⟩
def DelIRes(w:World)(B:Nat)(v:Value)(l:List VertM)(xs:List Nat)(e:Ending)(w':World):Prop:=∃ v',e=.returned v'∧GOwn encI 1 3 w' B v' (xs.filter (aliveQL l))∧w.grownBy w' v.ownBlock
def DelIRel(w:World)(B g cap:Nat)(l:List VertM)(xs:List Nat)(v5 v6:Value)(wr:World):Prop:=
 ∃(m j:Nat) (zs:List Nat),j≤xs.length∧m<j∧v5=.int .i64 m∧v6=.int .i64 j∧zs.length=xs.length∧Hid (zs.take m=keptI l xs j)∧Hid (∀ i,j≤i→zs[i]? = xs[i]?) ∧
  Hid (OwnAt wr B 3 1 g xs.length cap (zs.flatMap encI))∧Hid (w.grownBy wr (some g))
theorem zero_intI:((Tryz.prog.info? 3).bind (·.zero))=some (.int .i64 0):=by kernel_rfl
set_option maxHeartbeats 8000000 in
set_option maxRecDepth 100000 in
theorem delAl_any{w:World}{B:Nat}{v:Value}{xs:List Nat}(c s:Nat)(l:List VertM)(R:List (Nat × Nat))(h:GOwn encI 1 3 w B v xs)(hn:xs.length≤1000000)(hc:Arr w c [.pointer (some ⟨s,0,none⟩)])(hS:ShAt w s l R)(hx:∀ i∈xs,i<l.length)
  (hne:∀ w',w.grownBy w' v.ownBlock→Arr w' c [.pointer (some ⟨s,0,none⟩)]∧ShAt w' s l R) :
  Calls Tryz.prog 78 #[v,.func (.func 80) #[] #[.pointer (some ⟨c,0,none⟩)]] w (DelIRes w B v l xs):=by
 have HO:=Lib.hid h
 have hcon:=idxAl_any v xs c s l R w h.row hc hS hx
 have HX:=Lib.hid hx
 have HNE:=Lib.hid hne
 rcases idxI_cases l xs with⟨hi,hf⟩|⟨k0,u0,hk0,hi,hu0,hd0,hkp⟩
 ·
  rw [hi] at hcon
  have HF:=Lib.hid hf
  clear h hi hf hc hS hx hne
  go_enter Tryz.func78,Tryz.ntmps78
  go_wp2_with fail
  refine hcon.mono ?_
  rintro e w1 ⟨rfl,hw⟩
  obtain rfl:=hw.symm
  clear hcon
  go_wp2_with fail
  go_ret
  exact⟨_,rfl,(by rw [HF.out];exact HO.out),World.grownBy.refl _ _⟩
 ·
  rw [hi] at hcon
  obtain⟨g,cap,rfl,hA⟩:=own_at (show World.ownsRow _ _ _ _ _ _ _ from h) (by omega)
  have HA:=Lib.hid hA
  have hnc:=hA.nc
  have hcm:=hA.cm
  unfold maxLen at hcm
  have hg:=hA.lt
  have HK0:Hid (xs.take k0=keptI l xs (k0+1)):=by show _=_;rw [keptI_no hu0 hd0,hkp]
  clear h hi hA hu0 hd0 hkp hc hS hx hne
  go_enter Tryz.func78,Tryz.ntmps78
  go_wp2_with fail
  refine hcon.mono ?_
  rintro e w1 ⟨rfl,hw⟩
  obtain rfl:=hw.symm
  have d0:((k0:Int) == -1)=false:=by simp <;> omega
  clear hcon
  go_wp2_with fail
  go_loopw [5,6] (fun v5 v6 wr=>DelIRel w B g cap l xs v5 v6 wr) (fun _ v6 _=>xs.length - (intOf v6).toNat)
  case atStart=>exact⟨k0,k0+1,xs,hk0,Nat.lt_succ_self _,rfl,by go_num,rfl,HK0,Lib.hid (fun _ _=>rfl),HA,World.grownBy.refl _ _⟩
  case round =>
   obtain⟨m,j,zs,hj,hm,rfl,rfl,hz,HT,HJ,HI,HG⟩:=hrel
   rename World=>wr
   have sI:=HI.out.lt
   have HNr:=Lib.hid (HNE.out wr HG.out)
   by_cases hlt:j<xs.length
   ·
    obtain⟨u,hu⟩:=get_of_lt hlt
    have hu2:zs[j]? = some u:=(HJ.out j (Nat.le_refl _)).trans hu
    have HU:=Lib.hid hu
    have u0:wr.cell? ⟨g,j,none⟩=some (.int .i64 u):=HI.out.cell (ints_get hu2)
    obtain⟨x,hxu⟩:=get_of_lt (HX.out u (List.mem_of_getElem? hu))
    have HXu:=Lib.hid hxu
    clear hu hu2 hxu
    cases hf:deadQL l u with
    | true =>
     have HV:=Lib.hid hf
     have HK:=Lib.hid (keptI_no HU.out hf)
     clear hf
     go_wp2_with fail
     refine(aliveFn_any c s u x l R _ HNr.out.1 HNr.out.2 HXu.out).mono ?_
     rintro e w8 ⟨rfl,hw⟩
     obtain rfl:=hw.symm
     rw [HV.out]
     go_wp2_with fail
     go_roundw
     case rel=>exact⟨m,j+1,zs,hlt,by omega,rfl,by go_num,hz,(by show _=_;rw [HK.out];exact HT.out),Lib.hid (fun i hi=>HJ.out i (by omega)),HI,HG⟩
     case measure=>simp [intOf];omega
    | false =>
     have HV:=Lib.hid hf
     have HK:=Lib.hid (keptI_yes HU.out hf)
     have hml:m<zs.length:=by omega
     obtain⟨y,hy⟩:=get_of_lt hml
     have m0:wr.cell? ⟨g,m,none⟩=some (.int .i64 y):=HI.out.cell (ints_get hy)
     have mf:=HI.out.free m
     clear hf hy
     go_wp2_with fail
     refine(aliveFn_any c s u x l R _ HNr.out.1 HNr.out.2 HXu.out).mono ?_
     rintro e w8 ⟨rfl,hw⟩
     obtain rfl:=hw.symm
     rw [HV.out]
     go_wp2_with fail
     go_roundw
     case rel=>exact⟨m+1,j+1,zs.set m u,hlt,by omega,by go_num,by go_num,by simpa using hz,(by show _=_;rw [take_set_end hml,HK.out,HT.out]),Lib.hid (fun i hi=>by rw [List.getElem?_set,if_neg (by omega)];exact HJ.out i (by omega)),Lib.hid (by rw [← ints_set];exact HI.out.setCell m (by rw [ints_len];exact hml) _),Lib.hid (grown_trans HG.out (grown_setCell _ _ _))⟩
     case measure=>simp [intOf];omega
   ·
    obtain rfl:j=xs.length:=by omega
    have HE:Hid (zs.take m=xs.filter (aliveQL l)):=by show _=_;rw [HT.out,keptI_all]
    have hlen:(xs.filter (aliveQL l)).length=m:=by rw [← HE.out,List.length_take];omega
    have HL:=Lib.hid hlen
    have HTk:=Lib.hid (HI.out.take (k:=m) (by omega))
    have hcm2:¬ cap=m:=by omega
    have HF:Hid ((zs.flatMap encI).take (m*1)=(xs.filter (aliveQL l)).flatMap encI):=by
     show _=_
     rw [← HE.out,Nat.mul_one,ints_map,ints_map,List.map_take]
    clear hlen
    go_wp2_with (refine wpList_clear_at slIntI _ zero_intI (zero_one (fun u hu=>by simp [Value.cells] at hu;subst hu;rfl)) (fun k=>by rw [size_zeroCells];rfl) rfl _ rfl B g m cap _ HTk.out m _ _ _ (by omega) rfl (Nat.le_refl _) (by omega) ?_;intro w3 hA3 hg3 hs3)
    go_ret
    refine⟨_,rfl,?_,grown_trans HG.out hg3⟩
    show World.ownsRow _ _ _ _ _ _ _
    rw [HL.out,← HF.out]
    exact hA3.own
def SaRes(w:World)(l:List VertM)(R:List (Nat × Nat)):Ending→World→Prop:=OwnRes encI 1 3 w ((orderM R l.length).filter (aliveQL l))
theorem order_lt{R:List (Nat × Nat)}{n i:Nat}(h:i∈orderM R n):i<n:=by unfold orderM at h;exact(orderTo_whole R n n).lt i h
set_option maxHeartbeats 8000000 in
set_option maxRecDepth 100000 in
theorem salive_any(s:Nat)(l:List VertM)(R:List (Nat × Nat))(w:World)(h:ShAt w s l R)(hl:l.length≤65536):Calls Tryz.prog 34 #[.pointer (some ⟨s,0,none⟩)] w (SaRes w l R):=by
 have HS:=Lib.hid (h.over (below_new (w:=w) (.cells #[.pointer (some ⟨s,0,none⟩)] 44)))
 have HC:=Lib.hid (arrT_new w [.pointer (some ⟨s,0,none⟩)] 44)
 have HB:=Lib.hid (below_new (w:=w) (.cells #[.pointer (some ⟨s,0,none⟩)] 44))
 have hC:=HC.out
 have HC2:=Lib.hid (show Arr (w.alloc (.cells #[.pointer (some ⟨s,0,none⟩)] 44)) w.heap.size [.pointer (some ⟨s,0,none⟩)] from hC.arr)
 clear h hC HC
 go_enter Tryz.func34,Tryz.ntmps34
 go_upto_region 1 with(fail)
 generalize hw0:w.alloc (.cells #[.pointer (some ⟨s,0,none⟩)] 44)=w0 at *
 clear hw0
 have c0:=HC2.out.cell (j:=0) rfl
 have sc:=HC2.out.lt
 go_wp2_with fail
 refine(sorder_any s l R _ HS.out hl).mono ?_
 rintro e w1 ⟨v,rfl,ho,hb⟩
 have HO:=Lib.hid ho
 have HB1:=Lib.hid hb
 have hol:(orderM R l.length).length≤1000000:=by rw [orderM_len];omega
 have hbk:∀ k,v.ownBlock=some k→w0.heap.size≤k:=fun k hk=>gown_low ho hk
 have HBK:=Lib.hid hbk
 clear ho hb c0 sc hbk
 go_wp2_with fail
 refine(delAl_any w.heap.size s l R HO.out hol (HC2.out.over HB1.out) (HS.out.over HB1.out) (fun i hi=>order_lt hi) (fun w' hg => ?_)).mono ?_
 ·
  have hb2:Below w0.heap.size w0 w':=HB1.out.grown hg HB1.out.size HBK.out
  exact⟨HC2.out.over hb2,HS.out.over hb2⟩
 ·
  rintro e w2 ⟨v',rfl,ho2,hg2⟩
  have HO2:=Lib.hid (ho2.base HB.out.size)
  have HB2:=Lib.hid (below_over HB.out HB.out.size (HB1.out.grown hg2 HB1.out.size HBK.out))
  clear ho2 hg2
  go_wp2_with fail
  go_ret
  exact⟨_,rfl,HO2.out,HB2.out⟩

/-! ### which line is alike no other one -/
open Classical in
noncomputable def firmB(R:List (Nat × Nat))(n i:Nat):Bool:=decide (FirmP R n i)
theorem firmB_iff{R:List (Nat × Nat)}{n i:Nat}:firmB R n i=true↔FirmP R n i:=by unfold firmB;simp
theorem firmB_yes{R:List (Nat × Nat)}{n i:Nat}(hi:i<n)(h:∀ j,j<n→j≠i→aliB R i j=false):firmB R n i=true:=
 firmB_iff.2 ⟨hi,fun j hj hne ha=>by have:=h j hj hne;rw [aliB_iff.2 ha] at this;cases this⟩
theorem firmB_no{R:List (Nat × Nat)}{n i j:Nat}(hj:j<n)(hne:j≠i)(h:aliB R i j=true):firmB R n i=false:=by
 cases hf:firmB R n i with
 | false=>rfl
 | true=>exact absurd (aliB_iff.1 h) ((firmB_iff.1 hf).2 j hj hne)
attribute [local irreducible] firmB aliB
set_option maxHeartbeats 8000000 in
set_option maxRecDepth 100000 in
theorem sfirm_any(s i:Nat)(l:List VertM)(R:List (Nat × Nat))(w:World)(h:ShAt w s l R)(hi:i<l.length)(hl:l.length≤65536):Calls Tryz.prog 133 #[.pointer (some ⟨s,0,none⟩),.int .i64 i] w fun e w'=>e=.returned (.bool (firmB R l.length i))∧w'=w:=by
 have HS:=Lib.hid h
 obtain⟨lp,lc,r,op,oc,hL⟩:=h.look
 have s0:=hL.arr.cell (j:=0) rfl
 have s1:=hL.arr.cell (j:=1) rfl
 have ss:=hL.arr.lt
 have HR:=Lib.hid hL.rel
 have d1:decide ((l.length:Int)≤(i:Int))=false:=by simp;omega
 have d2:decide (l.length≤i)=false:=by simp;omega
 clear h hL
 go_enter Tryz.func133,Tryz.ntmps133
 go_wp2_with fail
 refine(slen_any s l R _ HS.out).mono ?_
 rintro e w1 ⟨rfl,hw⟩
 obtain rfl:=hw.symm
 go_wp2_with fail
 go_loopw [19] (fun v19 wr=>∃ j:Nat,j≤l.length∧v19=.int .i64 j∧Hid (∀ k,k<j→k≠i→aliB R i k=false)∧wr=w) (fun v19 _=>l.length - (intOf v19).toNat)
 case atStart=>exact⟨0,by omega,rfl,Lib.hid (fun k hk=>absurd hk (Nat.not_lt_zero k)),rfl⟩
 case round =>
  obtain⟨j,hj,rfl,HM,hw⟩:=hrel
  obtain rfl:=hw
  by_cases hlt:j<l.length
  ·
   by_cases he:j=i
   ·
    have e1:((j:Int) == (i:Int))=true:=by simp [he]
    have e2:((j:Int) != (i:Int))=false:=by simp [he]
    have HN:Hid (∀ k,k<j+1→k≠i→aliB R i k=false):=fun k hk hne=>by
     rcases Nat.lt_or_ge k j with hl|hl
     ·
      exact HM.out k hl hne
     ·
      exact absurd (show k=i by omega) hne
    clear he
    go_wp2_with fail
    go_roundw
    case rel=>exact⟨j+1,hlt,by go_num,HN,(by first|exact rfl|trivial)⟩
    case measure=>simp [intOf];omega
   ·
    have e1:((j:Int) == (i:Int))=false:=by simp;omega
    have e2:((j:Int) != (i:Int))=true:=by simp;omega
    cases ha:aliB R i j with
    | true =>
     have HV:=Lib.hid ha
     have HF:=Lib.hid (firmB_no hlt he ha)
     clear ha he
     go_wp2_with fail
     refine(rchAlike_any r l.length i j R _ HR.out hi hl (by omega)).mono ?_
     rintro e w2 ⟨rfl,hw⟩
     obtain rfl:=hw.symm
     rw [HV.out]
     go_wp2_with fail
     go_ret
     exact⟨ret_val (congrArg Value.bool HF.out.symm),rfl⟩
    | false =>
     have HV:=Lib.hid ha
     have HN:Hid (∀ k,k<j+1→k≠i→aliB R i k=false):=fun k hk hne=>by
      rcases Nat.lt_or_ge k j with hl|hl
      ·
       exact HM.out k hl hne
      ·
       obtain rfl:k=j:=by omega
       exact HV.out
     clear ha he
     go_wp2_with fail
     refine(rchAlike_any r l.length i j R _ HR.out hi hl (by omega)).mono ?_
     rintro e w2 ⟨rfl,hw⟩
     obtain rfl:=hw.symm
     rw [HV.out]
     go_wp2_with fail
     go_roundw
     case rel=>exact⟨j+1,hlt,by go_num,HN,(by first|exact rfl|trivial)⟩
     case measure=>simp [intOf];omega
  ·
   obtain rfl:j=l.length:=by omega
   have HF:=Lib.hid (firmB_yes hi HM.out)
   go_wp2_with fail
   go_ret
   exact⟨ret_val (congrArg Value.bool HF.out.symm),rfl⟩
end Go.Proofs.YtllcipobiengiaaGreat
namespace Go.Proofs.YtllcipobiengiaaGreat
open Go Go.RowKit

noncomputable def aliveX(l:List VertM)(R:List (Nat × Nat)):List Nat:=(orderM R l.length).filter (aliveQL l)
noncomputable def firmX(l:List VertM)(R:List (Nat × Nat)):List Nat:=(aliveX l R).filter (firmB R l.length)
theorem aliveX_lt{l:List VertM}{R:List (Nat × Nat)}{i:Nat}(h:i∈aliveX l R):i<l.length:=order_lt (List.mem_filter.1 h).1
theorem aliveX_len(l:List VertM)(R:List (Nat × Nat)):(aliveX l R).length≤l.length:=by
 have:=List.length_filter_le (aliveQL l) (orderM R l.length)
 rw [orderM_len] at this;exact this
theorem firmX_lt{l:List VertM}{R:List (Nat × Nat)}{i:Nat}(h:i∈firmX l R):i<l.length:=aliveX_lt (List.mem_filter.1 h).1
theorem firmX_len(l:List VertM)(R:List (Nat × Nat)):(firmX l R).length≤l.length:=Nat.le_trans (List.length_filter_le _ _) (aliveX_len l R)
noncomputable def firmTo(l:List VertM)(R:List (Nat × Nat))(k:Nat):List Nat:=((aliveX l R).take k).filter (firmB R l.length)
theorem firmTo_zero(l:List VertM)(R:List (Nat × Nat)):firmTo l R 0=[]:=rfl
theorem firmTo_all(l:List VertM)(R:List (Nat × Nat)):firmTo l R (aliveX l R).length=firmX l R:=by unfold firmTo firmX;rw [List.take_length]
theorem firmTo_yes{l:List VertM}{R:List (Nat × Nat)}{k i:Nat}(h:(aliveX l R)[k]? = some i)(hf:firmB R l.length i=true):firmTo l R (k+1)=firmTo l R k++[i]:=by unfold firmTo;rw [take_one h,List.filter_append];simp [hf]
theorem firmTo_no{l:List VertM}{R:List (Nat × Nat)}{k i:Nat}(h:(aliveX l R)[k]? = some i)(hf:firmB R l.length i=false):firmTo l R (k+1)=firmTo l R k:=by unfold firmTo;rw [take_one h,List.filter_append];simp [hf]
theorem firmTo_len(l:List VertM)(R:List (Nat × Nat))(k:Nat):(firmTo l R k).length≤l.length:=by
 unfold firmTo
 refine Nat.le_trans (List.length_filter_le _ _) ?_
 rw [List.length_take];exact Nat.le_trans (Nat.min_le_right _ _) (aliveX_len l R)
theorem sares_is(w:World)(l:List VertM)(R:List (Nat × Nat)):SaRes w l R=OwnRes encI 1 3 w (aliveX l R):=rfl
def FmRel(w1:World)(l:List VertM)(R:List (Nat × Nat))(v3 v9:Value)(wr:World):Prop:=∃ k:Nat,k≤(aliveX l R).length∧v9=.int .i64 k∧Hid (GOwn encI 1 3 wr w1.heap.size v3 (firmTo l R k))∧Hid (Below w1.heap.size w1 wr)
attribute [local irreducible] aliveX firmX firmTo firmB
set_option maxHeartbeats 8000000 in
set_option maxRecDepth 100000 in
theorem efirm_any(s:Nat)(l:List VertM)(R:List (Nat × Nat))(w:World)(h:ShAt w s l R)(hl:l.length≤65536):Calls Tryz.prog 85 #[.pointer (some ⟨s,0,none⟩)] w (OwnRes encI 1 3 w (firmX l R)):=by
 have HS:=Lib.hid h
 have hal:=aliveX_len l R
 clear h
 go_enter Tryz.func85,Tryz.ntmps85
 go_wp2_with fail
 refine(salive_any s l R _ HS.out hl).mono ?_
 rw [sares_is]
 rintro e w1 ⟨v,rfl,ho,hb⟩
 obtain⟨a,cap,rfl,h1,h2,hc⟩:=irow_at ho.row
 unfold maxLen at h2
 have HC:=Lib.hid hc
 have HB:=Lib.hid hb
 clear ho hc hb
 go_wp2_with fail
 go_loopw [3,9] (fun v3 v9 wr=>FmRel w1 l R v3 v9 wr) (fun _ v9 _=>(aliveX l R).length - (intOf v9).toNat)
 case atStart=>exact⟨0,by omega,rfl,Lib.hid (by rw [firmTo_zero];exact gown_nil _ _),Below.refl _ _⟩
 case round =>
  obtain⟨k,hk,rfl,HM,hbl⟩:=hrel
  rename World=>wr
  by_cases hlt:k<(aliveX l R).length
  ·
   obtain⟨b,off,rfl,sb,hcb⟩:=HC.out.resolve_left (by omega)
   obtain⟨i,hi⟩:=get_of_lt hlt
   obtain⟨sx,x0⟩:=hcb k i hi _ hbl.out
   have hil:=aliveX_lt (List.mem_of_getElem? hi)
   have HI:=Lib.hid hi
   have HSr:=Lib.hid (HS.out.over (below_over HB.out HB.out.size hbl.out))
   have hfl:=firmTo_len l R k
   clear hcb hi
   cases hf:firmB R l.length i with
   | true =>
    have HV:=Lib.hid hf
    have HN:=Lib.hid (firmTo_yes HI.out hf)
    have hN:(firmTo l R k).length+1≤1099511627776:=by omega
    have hB:=hbl.out.size
    clear hf
    go_wp2_with fail
    refine(sfirm_any s i l R _ HSr.out hil hl).mono ?_
    rintro e w2 ⟨rfl,hw⟩
    obtain rfl:=hw.symm
    rw [HV.out]
    go_wp2_with (at_builtin;(first|refine wpList_append_newD slIntI rfl _ _ rfl w1.heap.size _ _ (drawn_alloc_drewN _ _ _) 1 _ _ _ HM.out rfl rfl rfl rfl hN (by decide) hB ?_|refine wpList_append_newD slIntI rfl _ _ rfl w1.heap.size _ _ (drawn_drew _) 1 _ _ _ HM.out rfl rfl rfl rfl hN (by decide) hB ?_|refine wpList_append_newD slIntI rfl _ _ rfl w1.heap.size _ _ (drawn_drewN _ _) 1 _ _ _ HM.out rfl rfl rfl rfl hN (by decide) hB ?_|refine wpList_append_newD slIntI rfl _ _ rfl w1.heap.size _ _ (drawn_refl _) 1 _ _ _ HM.out rfl rfl rfl rfl hN (by decide) hB ?_);intro v9 w9 ho9 hg9)
    go_roundw
    case rel=>exact⟨k+1,hlt,by go_num,(by show GOwn _ _ _ _ _ _ _;rw [HN.out];exact GOwn.snoc ho9),below_grown hbl.out hB HM.out hg9⟩
    case measure=>simp [intOf];omega
   | false =>
    have HV:=Lib.hid hf
    have HN:=Lib.hid (firmTo_no HI.out hf)
    clear hf
    go_wp2_with fail
    refine(sfirm_any s i l R _ HSr.out hil hl).mono ?_
    rintro e w2 ⟨rfl,hw⟩
    obtain rfl:=hw.symm
    rw [HV.out]
    go_wp2_with fail
    go_roundw
    case rel=>exact⟨k+1,hlt,by go_num,(by show GOwn _ _ _ _ _ _ _;rw [HN.out];exact HM.out),hbl⟩
    case measure=>simp [intOf];omega
  ·
   obtain rfl:k=(aliveX l R).length:=by omega
   have HE:=HM.out
   rw [firmTo_all] at HE
   have HE2:=Lib.hid (HE.base HB.out.size)
   clear HE
   go_wp2_with fail
   go_ret
   exact⟨_,rfl,HE2.out,below_over HB.out HB.out.size hbl.out⟩

/-! ### the texts of lines -/
def encS1(t:ByteArray):List Value:=[.string t]
theorem encS1_len(t:ByteArray):(encS1 t).length=1:=rfl
theorem slStrE:SlT Tryz.prog 23 9 1 16:=slT_of Tryz.underlying23 (by kernel_rfl) (by decide)
theorem srow_of{w:World}{v:Value}{xs:List ByteArray}(h:GRow encS1 1 w v xs):SRow w v xs:=by
 have e:xs.flatMap encS1=xs.map Value.string:=by
  clear h
  induction xs with
  | nil=>rfl
  | cons x xs ih=>rw [List.flatMap_cons,ih];rfl
 unfold GRow at h
 rw [e] at h;exact h
def textAt(l:List VertM)(i:Nat):ByteArray:=(l.getD i noVert).text
theorem textAt_get{l:List VertM}{i:Nat}{x:VertM}(h:l[i]? = some x):textAt l i=x.text:=by unfold textAt;rw [getD_of h]
def textsTo(l:List VertM)(is':List Nat)(k:Nat):List ByteArray:=(is'.take k).map (textAt l)
theorem textsTo_zero(l:List VertM)(is':List Nat):textsTo l is' 0=[]:=rfl
theorem textsTo_succ{l:List VertM}{is':List Nat}{k i:Nat}(h:is'[k]? = some i):textsTo l is' (k+1)=textsTo l is' k++[textAt l i]:=by unfold textsTo;rw [take_one h,List.map_append];rfl
theorem textsTo_all(l:List VertM)(is':List Nat):textsTo l is' is'.length=is'.map (textAt l):=by unfold textsTo;rw [List.take_length]
theorem textsTo_len(l:List VertM)(is':List Nat)(k:Nat):(textsTo l is' k).length≤is'.length:=by unfold textsTo;rw [List.length_map,List.length_take];omega
def TxRel(w:World)(l:List VertM)(is':List Nat)(v5 v12:Value)(wr:World):Prop:=∃ k:Nat,k≤is'.length∧v12=.int .i64 k∧Hid (GOwn encS1 1 9 wr w.heap.size v5 (textsTo l is' k))∧Hid (Below w.heap.size w wr)
attribute [local irreducible] textAt textsTo
set_option maxHeartbeats 8000000 in
set_option maxRecDepth 100000 in
theorem etexts_any(s:Nat)(v:Value)(l:List VertM)(R:List (Nat × Nat))(is':List Nat)(w:World)(h:ShAt w s l R)(hv:GRow encI 1 w v is')(hi:∀ i∈is',i<l.length)(hn:is'.length≤1000000) :
  Calls Tryz.prog 87 #[.pointer (some ⟨s,0,none⟩),v] w (OwnRes encS1 1 9 w (is'.map (textAt l))):=by
 have HS:=Lib.hid h
 have HI:=Lib.hid hi
 obtain⟨a,cap,rfl,h1,h2,hc⟩:=irow_at hv
 unfold maxLen at h2
 have HC:=Lib.hid hc
 clear h hv hi hc
 go_enter Tryz.func87,Tryz.ntmps87
 go_wp2_with fail
 go_loopw [5,12] (fun v5 v12 wr=>TxRel w l is' v5 v12 wr) (fun _ v12 _=>is'.length - (intOf v12).toNat)
 case atStart=>exact⟨0,by omega,rfl,Lib.hid (by rw [textsTo_zero];exact gown_nil _ _),Below.refl _ _⟩
 case round =>
  obtain⟨k,hk,rfl,HM,hbl⟩:=hrel
  rename World=>wr
  by_cases hlt:k<is'.length
  ·
   obtain⟨b,off,rfl,sb,hcb⟩:=HC.out.resolve_left (by omega)
   obtain⟨i,hiu⟩:=get_of_lt hlt
   obtain⟨sx,x0⟩:=hcb k i hiu _ hbl.out
   obtain⟨x,hx⟩:=get_of_lt (HI.out i (List.mem_of_getElem? hiu))
   have HX:=Lib.hid hx
   have HSu:=Lib.hid (textsTo_succ (l:=l) hiu)
   rw [textAt_get hx] at HSu
   have hfl:=textsTo_len l is' k
   have hN:(textsTo l is' k).length+1≤1099511627776:=by omega
   clear hcb hiu hx
   go_wp2_with fail
   refine(svert_any s i x l R _ (HS.out.over hbl.out) HX.out).mono ?_
   rintro e w2 ⟨rfl,hb2⟩
   have HB2:=Lib.hid (below_over hbl.out hbl.out.size hb2)
   have HM2:=Lib.hid (HM.out.over hb2)
   clear hb2 x0 sx
   go_upto_region 6 with(fail)
   have HA3:=Lib.hid (arr_new w2 #[.int .u8 x.id.pid.author.toNat,.int .u16 x.id.pid.seq.toNat,.int .u8 x.id.n.toNat,.int .u8 x.kind.toNat,.int .u8 x.file.pid.author.toNat,.int .u16 x.file.pid.seq.toNat,.int .u8 x.file.n.toNat,.string x.text,.bool x.dead] 88)
   have HB3a:=Lib.hid (below_new (w:=w2) (.cells #[.int .u8 x.id.pid.author.toNat,.int .u16 x.id.pid.seq.toNat,.int .u8 x.id.n.toNat,.int .u8 x.kind.toNat,.int .u8 x.file.pid.author.toNat,.int .u16 x.file.pid.seq.toNat,.int .u8 x.file.n.toNat,.string x.text,.bool x.dead] 88))
   generalize hw3:w2.alloc (.cells #[.int .u8 x.id.pid.author.toNat,.int .u16 x.id.pid.seq.toNat,.int .u8 x.id.n.toNat,.int .u8 x.kind.toNat,.int .u8 x.file.pid.author.toNat,.int .u16 x.file.pid.seq.toNat,.int .u8 x.file.n.toNat,.string x.text,.bool x.dead] 88)=w3 at *
   clear hw3
   have HB3:=Lib.hid (below_over HB2.out HB2.out.size HB3a.out)
   have HM3:=Lib.hid (HM2.out.over HB3a.out)
   have hB3:=HB3.out.size
   have y0:=HA3.out.cell (j:=0) rfl
   have y1:=HA3.out.cell (j:=1) rfl
   have y2:=HA3.out.cell (j:=2) rfl
   have y3:=HA3.out.cell (j:=3) rfl
   have y4:=HA3.out.cell (j:=4) rfl
   have y5:=HA3.out.cell (j:=5) rfl
   have y6:=HA3.out.cell (j:=6) rfl
   have y7:=HA3.out.cell (j:=7) rfl
   have y8:=HA3.out.cell (j:=8) rfl
   have sy:=HA3.out.lt
   go_wp2_with (at_builtin;(first|refine wpList_append_newD slStrE rfl _ _ rfl w.heap.size _ _ (drawn_alloc_drewN _ _ _) 1 _ _ _ HM3.out rfl rfl rfl rfl hN (by decide) hB3 ?_|refine wpList_append_newD slStrE rfl _ _ rfl w.heap.size _ _ (drawn_drew _) 1 _ _ _ HM3.out rfl rfl rfl rfl hN (by decide) hB3 ?_|refine wpList_append_newD slStrE rfl _ _ rfl w.heap.size _ _ (drawn_drewN _ _) 1 _ _ _ HM3.out rfl rfl rfl rfl hN (by decide) hB3 ?_|refine wpList_append_newD slStrE rfl _ _ rfl w.heap.size _ _ (drawn_refl _) 1 _ _ _ HM3.out rfl rfl rfl rfl hN (by decide) hB3 ?_);intro v9 w9 ho9 hg9)
   go_roundw
   case rel=>exact⟨k+1,hlt,by go_num,(by show GOwn _ _ _ _ _ _ _;rw [HSu.out];exact GOwn.snoc ho9),below_grown HB3.out hB3 HM3.out hg9⟩
   case measure=>simp [intOf];omega
  ·
   obtain rfl:k=is'.length:=by omega
   have HE:=HM.out
   rw [textsTo_all] at HE
   have HE2:=Lib.hid HE
   clear HE
   go_wp2_with fail
   go_ret
   exact⟨_,rfl,HE2.out,hbl.out⟩
end Go.Proofs.YtllcipobiengiaaGreat
namespace Go.Proofs.YtllcipobiengiaaGreat
open Go Go.RowKit

def keptV1(ks:List Int):List Value:=ks.map fun x:Int=>.int .i64 x
theorem keptV1_get{ks:List Int}{k:Nat}{x:Int}(h:ks[k]? = some x):(keptV1 ks)[k]? = some (.int .i64 x):=by unfold keptV1;rw [List.getElem?_map,h];rfl
theorem keptV1_set(ks:List Int)(k:Nat)(x:Int):(keptV1 ks).set k (.int .i64 x)=keptV1 (ks.set k x):=by unfold keptV1;rw [List.map_set]
/-- the first j are -1 -/
def minus(j m:Nat):List Int:=(List.range m).map fun k=>if k<j then -1 else 0
theorem minus_len(j m:Nat):(minus j m).length=m:=by unfold minus;simp
theorem minus_get{j m k:Nat}(h:k<m):(minus j m)[k]? = some (if k<j then -1 else 0):=by unfold minus;simp [h]
theorem minus_zero(m:Nat):keptV1 (minus 0 m)=List.replicate m (.int .i64 0):=by unfold keptV1 minus;simp [List.map_const']
theorem minus_all(m:Nat):minus m m=List.replicate m (-1):=by
 refine List.ext_getElem? fun k => ?_
 by_cases h:k<m
 ·
  rw [minus_get h,List.getElem?_replicate,if_pos h,if_pos h]
 ·
  rw [List.getElem?_eq_none (by rw [minus_len];omega),List.getElem?_eq_none (by simp;omega)]
theorem minus_set{j m:Nat}(h:j<m):(minus j m).set j (-1)=minus (j+1) m:=by
 refine List.ext_getElem? fun k => ?_
 rw [List.getElem?_set,minus_len]
 by_cases hk:k<m
 ·
  rw [minus_get hk,minus_get hk]
  rcases Nat.lt_trichotomy k j with q|q|q
  ·
   rw [if_neg (by omega),if_pos q,if_pos (by omega)]
  ·
   subst q;simp [hk]
  ·
   rw [if_neg (by omega),if_neg (by omega),if_neg (by omega)]
 ·
  rw [if_neg (by omega),List.getElem?_eq_none (by rw [minus_len];omega),List.getElem?_eq_none (by rw [minus_len];omega)]
theorem slzIntE:SlZ Tryz.prog 85 3 (.int .i64 0) 8:=slZ_of Tryz.underlying85 (by kernel_rfl) rfl
def KpRes(w:World)(ks:List Int)(e:Ending)(w':World):Prop:=∃ g,e=.returned (.slice (some ⟨g,0,none⟩) ks.length ks.length)∧w.heap.size≤g∧ArrT w' g 3 (keptV1 ks)∧Below w.heap.size w w'
def K1Rel(w:World)(g m:Nat)(v15:Value)(wr:World):Prop:=∃ j:Nat,j≤m∧v15=.int .i64 j∧Hid (ArrT wr g 3 (keptV1 (minus j m)))∧Hid (Below w.heap.size w wr)
def K2Rel(w w4:World)(g m:Nat)(firm:List Nat)(ps:List (Nat × Nat))(v30:Value)(wr:World):Prop:=∃ k:Nat,k≤ps.length∧v30=.int .i64 k∧Hid (ArrT wr g 3 (keptV1 (keptTo firm (ps.take k) m)))∧Hid (w4.grownBy wr (some g))∧Hid (Below w.heap.size w wr)
theorem kp_zero(firm:List Nat)(ps:List (Nat × Nat))(m:Nat):minus m m=keptTo firm (ps.take 0) m:=by rw [minus_all,kept_zero]
theorem texts_len(l:List VertM)(is':List Nat):(is'.map (textAt l)).length=is'.length:=List.length_map ..
attribute [local irreducible] keptV1 minus keptTo textAt firmX
set_option maxHeartbeats 8000000 in
set_option maxRecDepth 100000 in
theorem ekeeps_any(s:Nat)(wv:Value)(l:List VertM)(R:List (Nat × Nat))(want:List ByteArray)(w:World)(h:ShAt w s l R)(hl:l.length≤1000)(hw:SRow w wv want)(hm:want.length≤1000) :
  Calls Tryz.prog 41 #[.pointer (some ⟨s,0,none⟩),wv] w (KpRes w (keptTo (firmX l R) (pairs ((firmX l R).map (textAt l)) want) want.length)):=by
 have HS:=Lib.hid h
 have HW:=Lib.hid hw
 obtain⟨m,hmm⟩:∃ m,m=want.length:=⟨_,rfl⟩
 obtain⟨a,cap,rfl,h1,h2,_⟩:=SRow.form hw
 unfold maxLen at h2
 rw [← hmm] at HW h1 hm ⊢
 have HM:=Lib.hid hmm
 have HZ:=Lib.hid (minus_zero m)
 have hq:8*m≤281474976710656:=by omega
 have hmx:m≤maxLen:=by unfold maxLen;omega
 have hfl:=firmX_len l R
 clear h hw hmm
 go_enter Tryz.func41,Tryz.ntmps41
 go_upto_region 2 with(at_make;refine wpList_make_zeros slzIntE rfl _ _ rfl w.heap.size m _ rfl rfl rfl hq hmx (Nat.le_refl _) ?_;intro w1 ho1 hg1)
 have HB1:=Lib.hid (grown_over' hg1 (fun g hg=>by cases hg))
 obtain⟨hA,_⟩:=own_full ho1
 obtain⟨g,hg⟩:∃ g,g=w.heap.size:=⟨_,rfl⟩
 rw [← hg] at hA ⊢
 rw [← HZ.out] at hA
 have HA:=Lib.hid hA
 have hgl:w.heap.size≤g:=by omega
 clear hA ho1 hg1 hg
 go_wp2_with fail
 go_loopw [15] (fun v15 wr=>K1Rel w g m v15 wr) (fun v15 _=>m - (intOf v15).toNat)
 case atStart=>exact⟨0,by omega,rfl,HA,HB1⟩
 case round =>
  obtain⟨j,hj,rfl,HA2,HB2⟩:=hrel
  rename World=>wr
  have sg:=HA2.out.arr.lt
  have HL2:=Lib.hid (minus_len j m)
  by_cases hlt:j<m
  ·
   have c0:=HA2.out.arr.cell (keptV1_get (minus_get (j:=j) hlt))
   have f0:=HA2.out.arr.free j
   have HA3:=Lib.hid (HA2.out.set j (.int .i64 (-1)))
   rw [keptV1_set,minus_set hlt] at HA3
   have HB3:=Lib.hid (HB2.out.setCell (p:=⟨g,j,none⟩) hgl (.int .i64 (-1)))
   go_wp2_with fail
   go_roundw
   case rel=>exact⟨j+1,hlt,by go_num,HA3,HB3⟩
   case measure=>simp [intOf];omega
  ·
   obtain rfl:m=j:=by omega
   have HS3:=Lib.hid (HS.out.over HB2.out)
   have sg0:=sg
   clear sg
   go_wp2_with fail
   refine(efirm_any s l R _ HS3.out (by omega)).mono ?_
   rintro e w3 ⟨fv,rfl,ho3,hb3⟩
   obtain⟨a3,c3,rfl,z1,z2,hcf⟩:=irow_at ho3.row
   unfold maxLen at z2
   have HFR:=Lib.hid ho3.row
   have HFO:=Lib.hid ho3
   have hgB:=sg0
   have HCF:=Lib.hid hcf
   have HB3:=Lib.hid (below_over HB2.out HB2.out.size hb3)
   have HA3:=Lib.hid (HA2.out.over hb3)
   clear ho3 hcf hb3
   go_wp2_with fail
   refine(etexts_any s _ l R (firmX l R) _ (HS.out.over HB3.out) HFR.out (fun i hi=>firmX_lt hi) (by omega)).mono ?_
   rintro e w4 ⟨tv,rfl,ho4,hb4⟩
   have HT4:=Lib.hid (srow_of ho4.row)
   have HB4:=Lib.hid (below_over HB3.out HB3.out.size hb4)
   have HA4:=Lib.hid (HA3.out.over hb4)
   have HB34:=Lib.hid hb4
   clear ho4 hb4
   go_wp2_with fail
   refine(match_any _ _ ((firmX l R).map (textAt l)) want _ HT4.out (by(have:=(HW.out.over HB4.out);exact this)) (by rw [texts_len];omega) (by rw [← HM.out];exact hm)).mono ?_
   rintro e w5 ⟨mv,Bm,rfl,ho5,hB1,hB2,hb5⟩
   have HPI:Hid (∀ p∈pairs ((firmX l R).map (textAt l)) want,p.1<(firmX l R).length∧p.2<m):=fun p hp=>by
    obtain⟨q1,q2,_⟩:=ePairs_in hp
    rw [texts_len] at q1
    exact⟨q1,by rw [HM.out];exact q2⟩
   obtain⟨ps,hps⟩:∃ ps,ps=pairs ((firmX l R).map (textAt l)) want:=⟨_,rfl⟩
   rw [← hps] at ho5 HPI ⊢
   have HO5:=Lib.hid (show GOwn encP 2 114 w5 Bm mv ps from ho5)
   have HB5:=Lib.hid (below_over HB4.out HB4.out.size hb5)
   have HA5:=Lib.hid (HA4.out.over hb5)
   have HFO5:=Lib.hid ((HFO.out.over HB34.out).over hb5)
   obtain⟨a5,c5,rfl,y1,y2,_⟩:=prow_at HO5.out.row
   unfold maxLen at y2
   have HPS:=Lib.hid hps
   clear ho5 hb5 hps hB1 hB2
   go_wp2_with fail
   go_loopw [30] (fun v30 wq=>K2Rel w w5 g m (firmX l R) ps v30 wq) (fun v30 _=>ps.length - (intOf v30).toNat)
   case atStart=>exact⟨0,by omega,rfl,Lib.hid (by rw [← kp_zero];exact HA5.out),World.grownBy.refl _ _,HB5⟩
   case round =>
    obtain⟨k,hk,rfl,HA6,HG6,HB6⟩:=hrel
    rename World=>wq
    have HO6:=Lib.hid (own_kept HO5.out HG6.out (HA5.out.ne HO5.out (by decide)))
    have HFO6:=Lib.hid (own_kept HFO5.out HG6.out (fun e=>by have:=gown_low HFO5.out e.symm;omega))
    by_cases hlt:k<ps.length
    ·
     obtain⟨a7,c7,e7,_,_,hc7⟩:=prow_at HO6.out.row
     cases e7
     obtain⟨b7,off7,rfl,sb7,hcb7⟩:=hc7.resolve_left (by omega)
     obtain⟨p,hp⟩:=get_of_lt hlt
     obtain⟨hp1,hp2⟩:=HPI.out p (List.mem_of_getElem? hp)
     have HP:=Lib.hid (kept_succ (firm:=firmX l R) (m:=m) hp)
     obtain⟨sx,x0,x1⟩:=hcb7 k p hp _ (Below.refl _ _)
     obtain⟨ip,jp⟩:=p
     simp only at hp1 hp2 x0 x1
     obtain⟨fi,hfi⟩:=get_of_lt hp1
     have HFI:=Lib.hid hfi
     clear hcb7 hp
     go_upto_region 11 with(fail)
     have HA8:=Lib.hid (arr_new wq #[.int .i64 ip,.int .i64 jp] 114)
     have HB8a:=Lib.hid (below_new (w:=wq) (.cells #[.int .i64 ip,.int .i64 jp] 114))
     generalize hw8:wq.alloc (.cells #[.int .i64 ip,.int .i64 jp] 114)=w8 at *
     clear hw8 x0 x1 sx
     have HAg:=Lib.hid (HA6.out.over HB8a.out)
     have HFO8:=Lib.hid (HFO6.out.over HB8a.out)
     have HB8:=Lib.hid (below_over HB6.out HB6.out.size HB8a.out)
     have HG8:=Lib.hid (grown_trans HG6.out (grown_of_below HB8a.out (row:=some g)))
     obtain⟨af,cf,ef,_,_,hcf2⟩:=irow_at HFO8.out.row
     cases ef
     obtain⟨bf,offf,rfl,sbf,hcbf⟩:=hcf2.resolve_left (by omega)
     obtain⟨sf,f0⟩:=hcbf ip fi hfi _ (Below.refl _ _)
     have p0:=HA8.out.cell (j:=0) rfl
     have p1:=HA8.out.cell (j:=1) rfl
     have sp:=HA8.out.lt
     have hkl:=kept_length (firmX l R) (ps.take k) m
     obtain⟨y,hy⟩:=get_of_lt (xs:=keptTo (firmX l R) (ps.take k) m) (i:=jp) (by rw [hkl];exact hp2)
     have g0:=HAg.out.arr.cell (keptV1_get hy)
     have gf:=HAg.out.arr.free jp
     have sg:=HAg.out.arr.lt
     have HN:=Lib.hid (HAg.out.set jp (.int .i64 fi))
     rw [keptV1_set,show((fi:Nat):Int)=(((firmX l R).getD (ip,jp).1 0:Nat):Int) by rw [getD_of hfi]] at HN
     rw [← HP.out] at HN
     have HBn:=Lib.hid (HB8.out.setCell (p:=⟨g,jp,none⟩) hgl (.int .i64 fi))
     have HGn:=Lib.hid (grown_trans HG8.out (grown_setCell (g:=g) w8 jp (.int .i64 fi)))
     have HEq:Hid ((((firmX l R).getD (ip,jp).1 0:Nat):Int)=(fi:Int)):=by show _=_;rw [getD_of hfi]
     rw [HEq.out] at HN
     clear hcbf hfi hy hkl hcf2
     go_wp2_with fail
     have hcur:Below w8.heap.size w8 w8.drew:=(Below.refl _ _).drew
     refine wp_region_lex (C:=IsOver w8) 9 [] (by kernel_rfl) (by kernel_rfl) (isOver_of hcur) ?_
     simp only [List.take_succ_cons,List.take_zero,List.drop_succ_cons,List.drop_zero]
     repeat(first|(refine lex_skip rfl rfl ?_;simp only [Act.put,List.setIfInBounds_toArray,List.set_cons_succ,List.set_cons_zero])|(refine lex_one rfl ?_;go_big_quiet_step (fail);refine wpQuiet_nil ?_)|(refine lex_loud rfl ?_;go_wp2_with (first|(fail));refine⟨isOver_of hcur,?_⟩))
     refine lex_end ?_
     clear hcur
     go_wp2_with fail
     go_roundw
     case rel=>exact⟨k+1,hlt,by go_num,Lib.hid (HN.out.over (Below.refl _ _).drew),Lib.hid (grown_trans HGn.out (grown_of_below (Below.refl _ _).drew)),Lib.hid HBn.out.drew⟩
     case measure=>simp [intOf];omega
    ·
     obtain rfl:k=ps.length:=by omega
     have HE:=HA6.out
     rw [List.take_length] at HE
     have HE2:=Lib.hid HE
     have HKL:=Lib.hid (kept_length (firmX l R) ps m)
     clear HE
     go_wp2_with fail
     go_ret
     refine⟨g,?_,hgl,(by rw [← HPS.out];exact HE2.out),HB6.out⟩
     rw [← HPS.out,HKL.out];rfl
end Go.Proofs.YtllcipobiengiaaGreat
namespace Go.Proofs.YtllcipobiengiaaGreat
open Go Go.RowKit

theorem numV_inj(x y:Int)(h:numV x=numV y):x=y:=by unfold numV at h;cases h;rfl
theorem zero_numV(u:World):(zeroValue 3).run Tryz.prog u=.ok (numV 0) u:=by kernel_rfl
def hereF(ks:List Int)(k:Nat):Int→Option Int:=fun x=>if x∈ks.take k then some 1 else none
theorem hereF_zero(ks:List Int):hereF ks 0=fun _=>none:=by funext x;simp [hereF]
theorem hereF_succ{ks:List Int}{k:Nat}{x:Int}(h:ks[k]? = some x):updM (hereF ks k) x 1=hereF ks (k+1):=by
 funext y
 have e:(y∈ks.take (k+1))↔(y∈ks.take k∨y=x):=by rw [take_one h];simp
 unfold updM hereF
 by_cases h1:y=x
 ·
  rw [if_pos h1,if_pos (e.2 (.inr h1))]
 ·
  by_cases h2:y∈ks.take k
  ·
   rw [if_neg h1,if_pos h2,if_pos (e.2 (.inl h2))]
  ·
   rw [if_neg h1,if_neg h2,if_neg (fun q=>(e.1 q).elim h2 h1)]
theorem hereF_yes{ks:List Int}{x:Int}(h:ks.contains x=true):numV ((hereF ks ks.length x).getD 0)=.int .i64 1:=by
 unfold hereF;rw [List.take_length,if_pos (by simpa using h)];rfl
theorem hereF_no{ks:List Int}{x:Int}(h:ks.contains x=false):numV ((hereF ks ks.length x).getD 0)=.int .i64 0:=by
 unfold hereF;rw [List.take_length,if_neg (by simpa using h)];rfl
theorem killV5_at{l:List VertM}{i:Nat}{x:VertM}(h:l[i]? = some x):killV5 l i=⟨5,x.id,noVid,⟨#[]⟩⟩:=by unfold killV5;rw [getD_of h]
def I1Rel(w0:World)(m:Nat)(ks:List Int)(v16:Value)(wr:World):Prop:=∃ k N:Nat,k≤ks.length∧N≤k∧v16=.int .i64 k∧Hid (TMap Tryz.prog 3 numV okInt numV wr m N (hereF ks k))∧Hid (Below w0.heap.size w0 wr)
def I2Rel(w1:World)(l:List VertM)(al:List Nat)(ks:List Int)(v8 v26:Value)(wr:World):Prop:=∃ k:Nat,k≤al.length∧v26=.int .i64 k∧Hid (GOwn encOp 8 58 wr w1.heap.size v8 (killsE l (al.take k) ks))∧Hid (Below w1.heap.size w1 wr)
attribute [local irreducible] hereF killsE keptV1 aliveX killV5
set_option maxHeartbeats 8000000 in
set_option maxRecDepth 100000 in
theorem ekills_any(s g:Nat)(l:List VertM)(R:List (Nat × Nat))(ks:List Int)(w:World)(h:ShAt w s l R)(hl:l.length≤1000)(hk:ArrT w g 3 (keptV1 ks))(hok:∀ x∈ks,okInt x)(hkl:ks.length≤1000) :
  Calls Tryz.prog 42 #[.pointer (some ⟨s,0,none⟩),.slice (some ⟨g,0,none⟩) ks.length ks.length] w (OwnRes encOp 8 58 w (killsE l (aliveX l R) ks)):=by
 have hmm:=@run_makeMap Tryz.prog
 have HS:=Lib.hid h
 have HK:=Lib.hid hk
 have HOK:=Lib.hid hok
 have hal:=aliveX_len l R
 have HT0:=Lib.hid (show TMap Tryz.prog 3 numV okInt numV (w.alloc (.map #[] 0)) w.heap.size 0 (hereF ks 0) by rw [hereF_zero];exact TMap.made w)
 have HB0:=Lib.hid (below_new (w:=w) (.map #[] 0))
 clear h hk hok
 go_enter Tryz.func42,Tryz.ntmps42
 go_upto_region 2 with(fail)
 clear hmm
 obtain⟨m,hm⟩:∃ m,m=w.heap.size:=⟨_,rfl⟩
 rw [← hm]
 have HT1:=HT0.out
 have hml:w.heap.size≤m:=by omega
 rw [← hm] at HT1
 have HT:=Lib.hid HT1
 generalize hw0:w.alloc (.map #[] 0)=w0 at *
 clear hw0 hm HT1 HT0
 go_wp2_with fail
 go_loopw [16] (fun v16 wr=>I1Rel w m ks v16 wr) (fun v16 _=>ks.length - (intOf v16).toNat)
 case atStart=>exact⟨0,0,by omega,by omega,rfl,HT,HB0⟩
 case round =>
  obtain⟨k,N,hk,hN,rfl,HM,HB⟩:=hrel
  rename World=>wr
  have HKr:=Lib.hid (HK.out.over HB.out)
  have sg:=HKr.out.arr.lt
  by_cases hlt:k<ks.length
  ·
   obtain⟨x,hx⟩:=get_of_lt hlt
   have c0:=HKr.out.arr.cell (keptV1_get hx)
   have HO:=Lib.hid (HOK.out x (List.mem_of_getElem? hx))
   have HSu:=Lib.hid (hereF_succ hx)
   clear hx
   go_wp2_with (refine wpList_tstore keysInt numV_inj rfl _ _ _ _ rfl Tryz.underlying158 m N (hereF ks k) rfl HM.out (by unfold maxLen;omega) x rfl HO.out 1 rfl ?_;intro w10 hm10 hg10 hs10;clear hs10)
   rw [HSu.out] at hm10
   have HM2:=Lib.hid hm10
   have HBn:=Lib.hid (HB.out.grown hg10 HB.out.size fun q hq=>by cases hq;exact hml)
   go_roundw
   case rel=>exact⟨k+1,N+1,hlt,by omega,by go_num,HM2,HBn⟩
   case measure=>simp [intOf];omega
  ·
   obtain rfl:k=ks.length:=by omega
   clear sg
   go_wp2_with fail
   refine(salive_any s l R _ (HS.out.over HB.out) (by omega)).mono ?_
   rw [sares_is]
   rintro e w1 ⟨v,rfl,ho,hb⟩
   obtain⟨a,cap,rfl,h1,h2,hc⟩:=irow_at ho.row
   unfold maxLen at h2
   have HC:=Lib.hid hc
   have HB1:=Lib.hid (below_over HB.out HB.out.size hb)
   have HM1:=Lib.hid (HM.out.over hb)
   have HAL:Hid (∀ i∈aliveX l R,i<l.length):=fun i hi=>aliveX_lt hi
   clear ho hc hb
   generalize aliveX l R=al at *
   go_wp2_with fail
   go_loopw [8,26] (fun v8 v26 wq=>I2Rel w1 l al ks v8 v26 wq) (fun _ v26 _=>al.length - (intOf v26).toNat)
   case atStart=>exact⟨0,by omega,rfl,Lib.hid (by rw [kills_zero];exact gown_nil _ _),Below.refl _ _⟩
   case round =>
    obtain⟨q,hq,rfl,HO,hbl⟩:=hrel
    rename World=>wq
    have hkl2:=kills_len l ks (al.take q)
    have hkl3:(al.take q).length≤al.length:=by rw [List.length_take];omega
    by_cases hlt:q<al.length
    ·
     obtain⟨b,off,rfl,sb,hcb⟩:=HC.out.resolve_left (by omega)
     obtain⟨i,hi⟩:=get_of_lt hlt
     obtain⟨sx,x0⟩:=hcb q i hi _ hbl.out
     obtain⟨x,hx⟩:=get_of_lt (HAL.out i (List.mem_of_getElem? hi))
     have HX:=Lib.hid hx
     have HI:=Lib.hid hi
     have HKV:=Lib.hid (killV5_at hx)
     have hil:=(List.getElem?_eq_some_iff.1 hx).1
     have HOi:=Lib.hid (ok_int (i:=i) (by omega))
     clear hcb hi hx
     go_wp2_with fail
     refine(svert_any s i x l R _ (HS.out.over (below_over HB1.out HB1.out.size hbl.out)) HX.out).mono ?_
     rintro e w2 ⟨rfl,hb2⟩
     have HB2:=Lib.hid (below_over hbl.out hbl.out.size hb2)
     have HO2:=Lib.hid (HO.out.over hb2)
     clear hb2 x0 sx
     go_upto_region 12 with(fail)
     have HA3:=Lib.hid (arr_new w2 #[.int .u8 x.id.pid.author.toNat,.int .u16 x.id.pid.seq.toNat,.int .u8 x.id.n.toNat,.int .u8 x.kind.toNat,.int .u8 x.file.pid.author.toNat,.int .u16 x.file.pid.seq.toNat,.int .u8 x.file.n.toNat,.string x.text,.bool x.dead] 88)
     have HB3a:=Lib.hid (below_new (w:=w2) (.cells #[.int .u8 x.id.pid.author.toNat,.int .u16 x.id.pid.seq.toNat,.int .u8 x.id.n.toNat,.int .u8 x.kind.toNat,.int .u8 x.file.pid.author.toNat,.int .u16 x.file.pid.seq.toNat,.int .u8 x.file.n.toNat,.string x.text,.bool x.dead] 88))
     generalize hw3:w2.alloc (.cells #[.int .u8 x.id.pid.author.toNat,.int .u16 x.id.pid.seq.toNat,.int .u8 x.id.n.toNat,.int .u8 x.kind.toNat,.int .u8 x.file.pid.author.toNat,.int .u16 x.file.pid.seq.toNat,.int .u8 x.file.n.toNat,.string x.text,.bool x.dead] 88)=w3 at *
     clear hw3
     have HB3:=Lib.hid (below_over HB2.out HB2.out.size HB3a.out)
     have HO3:=Lib.hid (HO2.out.over HB3a.out)
     have HM3:=Lib.hid (HM1.out.over HB3.out)
     have hB3:=HB3.out.size
     have y0:=HA3.out.cell (j:=0) rfl
     have y1:=HA3.out.cell (j:=1) rfl
     have y2:=HA3.out.cell (j:=2) rfl
     have y3:=HA3.out.cell (j:=3) rfl
     have y4:=HA3.out.cell (j:=4) rfl
     have y5:=HA3.out.cell (j:=5) rfl
     have y6:=HA3.out.cell (j:=6) rfl
     have y7:=HA3.out.cell (j:=7) rfl
     have y8:=HA3.out.cell (j:=8) rfl
     have sy:=HA3.out.lt
     cases hcn:ks.contains (Int.ofNat i) with
     | true =>
      have HLK:=Lib.hid (hereF_yes hcn)
      have HN:=Lib.hid (kills_no (l:=l) HI.out hcn)
      clear hcn
      go_wp2_with (refine wpList_tlookV keysInt numV_inj rfl _ _ _ rfl Tryz.underlying158 0 (zero_numV _) m N (hereF ks ks.length) rfl HM3.out (i:Int) rfl HOi.out _ HLK.out ?_)
      go_roundw
      case rel=>exact⟨q+1,hlt,by go_num,(by show GOwn _ _ _ _ _ _ _;rw [HN.out];exact HO3.out),HB3⟩
      case measure=>simp [intOf];omega
     | false =>
      have HLK:=Lib.hid (hereF_no hcn)
      have HN:=Lib.hid (kills_yes (l:=l) HI.out hcn)
      have hN3:(killsE l (al.take q) ks).length+1≤1099511627776:=by omega
      clear hcn
      go_wp2_with (first|(refine wpList_tlookV keysInt numV_inj rfl _ _ _ rfl Tryz.underlying158 0 (zero_numV _) m N (hereF ks ks.length) rfl HM3.out (i:Int) rfl HOi.out _ HLK.out ?_)|(at_builtin;(first|refine wpList_append_newD slOp rfl _ _ rfl w1.heap.size _ _ (drawn_alloc_drewN _ _ _) 1 _ _ _ HO3.out rfl rfl rfl rfl hN3 (by decide) hB3 ?_|refine wpList_append_newD slOp rfl _ _ rfl w1.heap.size _ _ (drawn_drew _) 1 _ _ _ HO3.out rfl rfl rfl rfl hN3 (by decide) hB3 ?_|refine wpList_append_newD slOp rfl _ _ rfl w1.heap.size _ _ (drawn_drewN _ _) 1 _ _ _ HO3.out rfl rfl rfl rfl hN3 (by decide) hB3 ?_|refine wpList_append_newD slOp rfl _ _ rfl w1.heap.size _ _ (drawn_refl _) 1 _ _ _ HO3.out rfl rfl rfl rfl hN3 (by decide) hB3 ?_);intro v9 w9 ho9 hg9))
      go_roundw
      case rel=>exact⟨q+1,hlt,by go_num,(by show GOwn _ _ _ _ _ _ _;rw [HN.out,HKV.out];exact GOwn.snoc ho9),below_grown HB3.out hB3 HO3.out hg9⟩
      case measure=>simp [intOf];omega
    ·
     obtain rfl:q=al.length:=by omega
     have HE:=HO.out
     rw [List.take_length] at HE
     have HE2:=Lib.hid (HE.base HB1.out.size)
     clear HE
     go_wp2_with fail
     go_ret
     exact⟨_,rfl,HE2.out,below_over HB1.out HB1.out.size hbl.out⟩
end Go.Proofs.YtllcipobiengiaaGreat
namespace Go.Proofs.YtllcipobiengiaaGreat
open Go Go.RowKit

section
variable {P : Program} {ty : TypeId} {size : Nat} {w : World} {ops : Array Oper} {rest : List Oper} {o : Oper} {a : Act} {Q : Exit → Act → World → Prop}
/-- a struct stored at a place of a row of the call's own -/
theorem wpList_store_own(T:RowT P ty size)(hgd:o.guard=none)(x y:Operand)(ho:o.op=.store ty x y){B:Nat}{e:TypeId}{sz g n cap:Nat}{xs:List Value}(hA:OwnAt w B e sz g n cap xs)(k:Nat)(new:List Value)
  (hx:a.eval x=.pointer (some ⟨g,k,none⟩)) (hy:a.eval y=.agg new.toArray) (hn:new.length=size) (hk:k+new.length≤n*sz) (h1:∀ u∈new,u.oneCell'=true)
  (h:∀ w',OwnAt w' B e sz g n cap (xs.take k++new++xs.drop (k+new.length))→w.grownBy w' (some g)→w'.heap.size=w.heap.size→wpList P ops Q rest (a.put o.dst undef) w'):wpList P ops Q (o :: rest) a w:=by
 refine wpList_plain hgd fun K hK => ?_
 obtain⟨d,i,_,_,h3,h4⟩:=T.out
 obtain⟨w',hs,r1,r2,r3⟩:=hA.put (P:=P) h1 hk
 have hc:(Value.agg new.toArray).cells=new.toArray:=rfl
 have hr:(storeVar ty ⟨g,k,none⟩ (.agg new.toArray)).run P w=.ok () w':=by simp [storeVar,sizeOf,typeInfo,h3,h4,hc,hn,hs]
 unfold Oper.wp execOp
 simp only [ho,hx,hy,Instr.storeAt,Instr.sureAddr,Sem.run_bind,Sem.run_pure,Result.andThen_ok,hr]
 exact hK _ _ (h w' r1 r2 r3)
end
attribute [local irreducible] idxB
/-! ### taken out in place -/
/-! ### the names of a file -/
theorem ofM_len(L:List PatchM)(f:VidM)(k:UInt8):(ofM L f k).length≤(idsM L).length:=Nat.le_trans (List.length_filter_le _ _) (by unfold vertsM;rw [List.length_map];exact Nat.le_refl _)
attribute [local irreducible] ofM aliveM namesM idsM
end Go.Proofs.YtllcipobiengiaaGreat
namespace Go.Proofs.YtllcipobiengiaaGreat
open Go Go.RowKit

/-! ### a row of names that is filled -/
theorem vids_cells(n:Nat):(madeCells #[.int .u8 0,.int .u16 0,.int .u8 0] (n*3)).toList=(List.replicate n noVid).flatMap encVid:=by
 refine List.ext_getElem? fun k => ?_
 by_cases hk:k<n*3
 ·
  have h2:=flat_get encVid_len (List.replicate n noVid) (k / 3) (k % 3) noVid (by rw [List.getElem?_replicate,if_pos (by omega)]) (by omega)
  rw [show k / 3*3+k % 3=k by omega] at h2
  rw [h2]
  unfold madeCells
  have h3:k % 3=0∨k % 3=1∨k % 3=2:=by omega
  rcases h3 with h3|h3|h3 <;> simp [h3,hk] <;> rfl
 ·
  rw [List.getElem?_eq_none (by simp [madeCells];omega),List.getElem?_eq_none (by rw [flat_len encVid_len];simp;omega)]
theorem own_fullN{w:World}{B g n sz:Nat}{e:TypeId}{xs:List Value}(h:w.ownsRow B e sz (.slice (some ⟨g,0,none⟩) n n) n xs):ArrT w g e xs∧B≤g:=by
 obtain⟨h1,h2⟩:=h
 rcases h2 with⟨hv,_⟩|⟨g',cap,cur,hv,hb,hg,hnc,hm,hs,ht⟩
 ·
  cases hv
 ·
  cases hv
  have:cur.toList=xs:=by rw [← ht,List.take_of_length_le (by simp;omega)]
  refine⟨?_,hb⟩
  unfold ArrT
  rw [hg,← this]
def atL(at':List VidM)(j m:Nat):List VidM:=at'++List.replicate (m - j) noVid
theorem atL_zero(m:Nat):atL [] 0 m=List.replicate m noVid:=rfl
theorem atL_set{at':List VidM}{j m:Nat}(ha:at'.length=j)(hj:j<m)(v:VidM):(atL at' j m).set j v=atL (at'++[v]) (j+1) m:=by
 unfold atL
 rw [List.set_append_right _ _ (by omega),ha,Nat.sub_self,show m - j=(m - (j+1))+1 by omega,List.replicate_succ,List.set_cons_zero,List.append_assoc]
 rfl
theorem atL_len{at':List VidM}{j m:Nat}(ha:at'.length=j)(hj:j≤m):(atL at' j m).length=m:=by unfold atL;rw [List.length_append,ha,List.length_replicate];omega
theorem atL_all{at':List VidM}{m:Nat}:atL at' m m=at':=by unfold atL;rw [Nat.sub_self];simp
theorem oown_form{w:World}{B:Nat}{e:TypeId}{v:Value}{xs:List OpM}(h:GOwn encOp 8 e w B v xs):∃ p c,v=.slice p xs.length c:=by
 obtain⟨a,cap,e1,_⟩:=h.row.at encOp_len
 exact⟨a,cap,e1⟩
theorem oown_more{w:World}{B:Nat}{e:TypeId}{v:Value}{xs ys:List OpM}{o:OpM}(h:GOwn encOp 8 e w B v (xs++[o]))(hy:ys=xs++[o]):∃(p:Option Addr) (c:Nat),v=.slice p ys.length c∧GOwn encOp 8 e w B v ys:=by
 subst hy
 obtain⟨p,c,e⟩:=oown_form h
 exact⟨p,c,e,h⟩
structure MidE (wr:World) (w0:World) (gK gA m j:Nat) (ks:List Int) (p:Option Addr) (c:Nat) (ops:List OpM) (at':List VidM):Prop where
 kept:ArrT wr gK 3 (keptV1 ks)
 names:ArrT wr gA 40 ((atL at' j m).flatMap encVid)
 own:GOwn encOp 8 58 wr w0.heap.size (.slice p ops.length c) ops
 below:Below w0.heap.size w0 wr
theorem MidE.over{wr w0 w2:World}{gK gA m j:Nat}{ks:List Int}{p:Option Addr}{c:Nat}{ops:List OpM}{at':List VidM}(h:MidE wr w0 gK gA m j ks p c ops at')(hb:Below wr.heap.size wr w2):MidE w2 w0 gK gA m j ks p c ops at':=
 ⟨h.kept.over hb,h.names.over hb,h.own.over hb,below_over h.below h.below.size hb⟩
section
variable {P : Program} {ty : TypeId} {size : Nat} {w : World} {ops : Array Oper} {rest : List Oper} {o : Oper} {a : Act} {Q : Exit → Act → World → Prop}
/-- a struct stored at a place of a whole row -/
theorem wpList_store_arrN(T:RowT P ty size)(hgd:o.guard=none)(x y:Operand)(ho:o.op=.store ty x y){e:TypeId}{sz g n:Nat}{cs:List Value}(hA:ArrT w g e cs)(hl:cs.length=n*sz)(hm:n≤maxLen)(k:Nat)(new:List Value)
  (hx:a.eval x=.pointer (some ⟨g,k,none⟩)) (hy:a.eval y=.agg new.toArray) (hn:new.length=size) (hk:k+new.length≤n*sz) (h1:∀ u∈new,u.oneCell'=true)
  (h:∀ w',ArrT w' g e (cs.take k++new++cs.drop (k+new.length))→w.grownBy w' (some g)→wpList P ops Q rest (a.put o.dst undef) w'):wpList P ops Q (o :: rest) a w:=
 wpList_store_own T hgd x y ho (B:=g) (e:=e) (sz:=sz) (n:=n) (cap:=n) (xs:=cs) ⟨⟨[],by rw [List.append_nil];exact hA,by rw [List.append_nil];exact hl⟩,hl,Nat.le_refl _,Nat.le_refl _,hm⟩ k new hx hy hn hk h1 fun w' hO hg _=>h w' (own_fullN hO.own).1 hg
end
theorem vids_put{l:List VidM}{j:Nat}{v:VidM}(h:j<l.length):(l.flatMap encVid).take (j*3)++encVid v++(l.flatMap encVid).drop (j*3+(encVid v).length)=(l.set j v).flatMap encVid:=by
 rw [flat_set encVid_len l j v h,show(j+1)*3=j*3+(encVid v).length by rw [encVid_len];omega]
/-- a name more -/
theorem MidE.name{wr w' w0:World}{gK gA m j:Nat}{ks:List Int}{p:Option Addr}{c:Nat}{ops:List OpM}{at':List VidM}(h:MidE wr w0 gK gA m j ks p c ops at')(ha:at'.length=j)(hj:j<m)(hg:w0.heap.size≤gA)(hne:gK≠gA){v:VidM}
  (hA:ArrT w' gA 40 (((atL at' j m).flatMap encVid).take (j*3)++encVid v++((atL at' j m).flatMap encVid).drop (j*3+(encVid v).length))) (hgr:wr.grownBy w' (some gA)):MidE w' w0 gK gA m (j+1) ks p c ops (at'++[v]):=by
 rw [vids_put (by rw [atL_len ha (Nat.le_of_lt hj)];exact hj),atL_set ha hj] at hA
 exact⟨h.kept.kept hgr (fun e=>hne (Option.some.inj e)),hA,own_kept h.own hgr (h.names.ne h.own (by decide)),h.below.grown hgr h.below.size fun q hq=>by cases hq;exact hg⟩
theorem atL_flat{at':List VidM}{j m:Nat}(ha:at'.length=j)(hj:j≤m):((atL at' j m).flatMap encVid).length=m*3:=by rw [flat_len encVid_len,atL_len ha hj]
/-- an operation more -/
theorem MidE.op{wr w0 w9:World}{gK gA m j:Nat}{ks:List Int}{p p9:Option Addr}{c c9:Nat}{ops ops9:List OpM}{at':List VidM}(h:MidE wr w0 gK gA m j ks p c ops at')(ho:GOwn encOp 8 58 w9 w0.heap.size (.slice p9 ops9.length c9) ops9)(hg:wr.grownBy w9 (Value.slice p ops.length c).ownBlock) :
  MidE w9 w0 gK gA m j ks p9 c9 ops9 at':=
 ⟨h.kept.kept hg (h.kept.ne h.own (by decide)),h.names.kept hg (h.names.ne h.own (by decide)),ho,below_grown h.below h.below.size h.own hg⟩
def A1Rel(w0:World)(l:List VertM)(file:VidM)(id:PidM)(from':Nat)(ks:List Int)(want:List ByteArray)(kl:List OpM)(gK gA m:Nat)(v12 v30:Value)(wr:World):Prop:=
 ∃(j:Nat) (ops:List OpM) (at':List VidM) (p:Option Addr) (c:Nat),j≤m∧v30=.int .i64 j∧v12=.slice p ops.length c∧Hid ((ops,at')=addsTo l file id from' ks want kl j)∧Hid (MidE wr w0 gK gA m j ks p c ops at')
def A2Rel(w0:World)(R:List (Nat × Nat))(ks:List Int)(at':List VidM)(ops0:List OpM)(gK gA m:Nat)(v12 v69:Value)(wr:World):Prop:=
 ∃(j:Nat) (ops:List OpM) (p:Option Addr) (c:Nat),j≤m∧v69=.int .i64 j∧v12=.slice p ops.length c∧Hid (ops=ops0++tiesTo R ks at' j)∧Hid (MidE wr w0 gK gA m m ks p c ops at')
theorem rowVidE:RowT Tryz.prog 40 3:=rowT_of Tryz.underlying40 rfl (by kernel_rfl)
theorem slVidE:SlT Tryz.prog 37 40 3 6:=slT_of Tryz.underlying37 (by kernel_rfl) (by decide)
attribute [local irreducible] keptV1 keptTo textAt firmX aliveX killsE addsTo tiesTo atL
theorem adds_both{l:List VertM}{file:VidM}{id:PidM}{from':Nat}{ks:List Int}{want:List ByteArray}{kl ops:List OpM}{at':List VidM}{j:Nat}(hl:ks.length=want.length)(hj:j≤want.length)(h:(ops,at')=addsTo l file id from' ks want kl j):at'.length=j∧ops.length≤kl.length+j:=by
 have h1:=adds_len2 (l:=l) (file:=file) (id:=id) (from':=from') (ks:=kl) hl j hj
 have h2:=adds_len1 (l:=l) (file:=file) (id:=id) (from':=from') (kept:=ks) (want:=want) (ks:=kl) j
 rw [← h] at h1 h2
 exact⟨h1,h2⟩
theorem adds_next1{l:List VertM}{file:VidM}{id:PidM}{from':Nat}{ks:List Int}{want:List ByteArray}{kl ops:List OpM}{at':List VidM}{j i:Nat}{t:ByteArray}{x:VertM}(hk:ks[j]? = some (i:Int))(ht:want[j]? = some t)(hx:l[i]? = some x)(h:(ops,at')=addsTo l file id from' ks want kl j) :
  (ops,at'++[x.id])=addsTo l file id from' ks want kl (j+1):=by
 rw [adds_yes hk ht,← h,getD_of hx]
theorem adds_next2{l:List VertM}{file:VidM}{id:PidM}{from':Nat}{ks:List Int}{want:List ByteArray}{kl ops:List OpM}{at':List VidM}{j:Nat}{t:ByteArray}(hk:ks[j]? = some (-1))(ht:want[j]? = some t)(h:(ops,at')=addsTo l file id from' ks want kl j) :
  (ops++[⟨3,file,noVid,t⟩],at'++[⟨id,UInt8.ofNat (from'+ops.length)⟩])=addsTo l file id from' ks want kl (j+1):=by
 rw [adds_no hk ht,← h]
set_option maxHeartbeats 16000000 in
set_option maxRecDepth 100000 in
theorem eops_any(s:Nat)(wv:Value)(l:List VertM)(R:List (Nat × Nat))(file:VidM)(id:PidM)(from':Nat)(want:List ByteArray)(w:World)(h:ShAt w s l R)(hl:l.length≤1000)(hw:SRow w wv want)(hm:want.length≤1000)(hf:from'≤1000000) :
  Calls Tryz.prog 16 #[.pointer (some ⟨s,0,none⟩),vidV file,pidV id,.int .i64 from',wv] w (OwnRes encOp 8 58 w (editM l R (aliveX l R) (firmX l R) file id from' want (pairs ((firmX l R).map (textAt l)) want))):=by
 rw [edit_eq]
 have HBX:=(below_new (w:=w) (.cells #[.int .u8 file.pid.author.toNat,.int .u16 file.pid.seq.toNat,.int .u8 file.n.toNat] 40)).alloc (by simp) (.cells #[.int .u8 id.author.toNat,.int .u16 id.seq.toNat] 26)
 have HS:=Lib.hid (h.over HBX)
 have HW:=Lib.hid (hw.over HBX)
 have HF:=Lib.hid ((arr_new w #[.int .u8 file.pid.author.toNat,.int .u16 file.pid.seq.toNat,.int .u8 file.n.toNat] 40).alloc (.cells #[.int .u8 id.author.toNat,.int .u16 id.seq.toNat] 26))
 have HI:=Lib.hid (arr_new2 w (.cells #[.int .u8 file.pid.author.toNat,.int .u16 file.pid.seq.toNat,.int .u8 file.n.toNat] 40) #[.int .u8 id.author.toNat,.int .u16 id.seq.toNat] 26)
 have HB:=Lib.hid HBX
 obtain⟨wa,wc,rfl,z1,z2,_⟩:=SRow.form hw
 unfold maxLen at z2
 clear h hw HBX
 unfold vidV pidV
 go_enter Tryz.func16,Tryz.ntmps16
 go_upto_region 1 with(fail)
 generalize hw0:(w.alloc (.cells #[.int .u8 file.pid.author.toNat,.int .u16 file.pid.seq.toNat,.int .u8 file.n.toNat] 40)).alloc (.cells #[.int .u8 id.author.toNat,.int .u16 id.seq.toNat] 26)=w0 at *
 clear hw0
 go_wp2_with fail
 refine(ekeeps_any s _ l R want _ HS.out hl HW.out hm).mono ?_
 generalize hks:keptTo (firmX l R) (pairs ((firmX l R).map (textAt l)) want) want.length=ks
 have HKI:Hid (∀(j:Nat) (x:Int),ks[j]? = some x→x = -1∨∃ i:Nat,x=(i:Int)∧i<l.length):=fun j x hx=>by
  rw [← hks] at hx
  refine kept_is (fun i hi=>firmX_lt hi) ?_ hx
  rcases Nat.eq_zero_or_pos l.length with h0|h0
  ·
   refine .inr (List.eq_nil_iff_forall_not_mem.2 fun p hp => ?_)
   have h1:=(ePairs_in hp).1
   rw [texts_len] at h1
   have:=firmX_len l R
   omega
  ·
   exact .inl h0
 have hkl:ks.length=want.length:=by rw [← hks];exact kept_length _ _ _
 have HKL:=Lib.hid hkl
 have HKS:=Lib.hid hks
 clear hks
 rintro e w1 ⟨gK,rfl,hgK,hA,hb1⟩
 have HA1:=Lib.hid hA
 have HB1:=Lib.hid hb1
 have HOK:Hid (∀ x∈ks,okInt x):=fun x hx=>by
  obtain⟨j,hj⟩:=List.getElem?_of_mem hx
  rcases HKI.out j x hj with rfl|⟨i,rfl,hi⟩
  ·
   unfold okInt;omega
  ·
   exact ok_int (by omega)
 clear hA hb1
 rw [hkl]
 go_wp2_with fail
 refine(hkl▸ekills_any s gK l R ks _ (HS.out.over HB1.out) hl HA1.out HOK.out (by omega)).mono ?_
 have hkil:=Nat.le_trans (kills_len l ks (aliveX l R)) (aliveX_len l R)
 generalize hkill:killsE l (aliveX l R) ks=kl at *
 have HKLL:=Lib.hid hkill
 clear hkill
 rintro e w2 ⟨v12,rfl,ho2,hb2⟩
 have HO2:=Lib.hid (ho2.base HB1.out.size)
 have HB2:=Lib.hid (below_over HB1.out HB1.out.size hb2)
 have HA2:=Lib.hid (HA1.out.over hb2)
 clear ho2 hb2 hkl
 obtain⟨m,hmm⟩:∃ m,m=want.length:=⟨_,rfl⟩
 rw [← hmm] at hm ⊢
 have HMM:=Lib.hid hmm
 have hmx:m≤maxLen:=by unfold maxLen;omega
 obtain⟨ti,tz,t1,t2,t3,t4,t5,t6,t7⟩:=slVidE.out
 have hz:((Tryz.prog.info? 40).bind (·.zero))=some (.agg #[.int .u8 0,.int .u16 0,.int .u8 0]):=by kernel_rfl
 rw [t2] at hz
 have hz2:tz=.agg #[.int .u8 0,.int .u16 0,.int .u8 0]:=by
  have:ti.zero=some (.agg #[.int .u8 0,.int .u16 0,.int .u8 0]):=hz
  rw [t3] at this;exact Option.some.inj this
 subst hz2
 have hbm:ti.bytes*m≤281474976710656:=by rw [t5];omega
 have HT:=Lib.hid (And.intro t2 (And.intro t3 (And.intro t4 hbm)))
 clear hmm hz t1 t2 t3 t4 t5 t6 t7 hbm
 go_upto_region 4 with(at_make;refine wpList_make_full _ rfl _ _ _ rfl w2.heap.size 40 ti _ 3 Tryz.underlying37 HT.out.1 HT.out.2.1 HT.out.2.2.1 .i64 .i64 _ _ m rfl rfl rfl rfl HT.out.2.2.2 hmx (Nat.le_refl _) ?_;intro w3 ho3 hg3)
 have HB3a:=Lib.hid (grown_over' hg3 (fun g hg=>by cases hg))
 have hA3:=(own_fullN ho3).1
 rw [show(Value.agg #[.int .u8 0,.int .u16 0,.int .u8 0]).cells=#[.int .u8 0,.int .u16 0,.int .u8 0] from rfl,vids_cells] at hA3
 have hgl:w0.heap.size≤w2.heap.size:=HB2.out.size
 have hne:gK≠w2.heap.size:=by have:=HA2.out.arr.lt;omega
 obtain⟨gA,hgA0⟩:∃ gA,gA=w2.heap.size:=⟨_,rfl⟩
 rw [← hgA0] at hA3 hgl hne ⊢
 obtain⟨p0,c0,rfl⟩:=oown_form HO2.out
 have HMid0:Hid (MidE w3 w0 gK gA m 0 ks p0 c0 kl []):=⟨HA2.out.over HB3a.out,(by rw [atL_zero];exact hA3),HO2.out.over HB3a.out,below_over HB2.out HB2.out.size HB3a.out⟩
 clear hA3 ho3 hg3 hgA0 HB3a HT HA2 HO2 HA1
 go_wp2_with fail
 go_loopw [12,30] (fun v12 v30 wr=>A1Rel w0 l file id from' ks want kl gK gA m v12 v30 wr) (fun _ v30 _=>m - (intOf v30).toNat)
 case atStart=>exact⟨0,kl,[],p0,c0,by omega,rfl,rfl,Lib.hid adds_zero.symm,HMid0⟩
 case round =>
  obtain⟨j,ops,at',p,c,hj,rfl,rfl,HAD,HMid⟩:=hrel
  rename World=>wr
  obtain⟨hal,hol⟩:=adds_both HKL.out (by rw [← HMM.out];exact hj) HAD.out
  have HAL:=Lib.hid hal
  have sk:=HMid.out.kept.arr.lt
  clear hal
  by_cases hlt:j<m
  ·
   obtain⟨x,hx⟩:=get_of_lt (xs:=ks) (i:=j) (by rw [HKL.out,← HMM.out];exact hlt)
   obtain⟨t,ht⟩:=get_of_lt (xs:=want) (i:=j) (by rw [← HMM.out];exact hlt)
   have k0:=HMid.out.kept.arr.cell (keptV1_get hx)
   obtain⟨y,hy⟩:=get_of_lt (xs:=atL at' j m) (i:=j) (by rw [atL_len HAL.out hj];exact hlt)
   have HY:=Lib.hid hy
   have HX:=Lib.hid hx
   have HTx:=Lib.hid ht
   have HBw:=Lib.hid HMid.out.below
   clear hy ht
   rcases HKI.out j x hx with hx1|⟨i,hx1,hil⟩
   ·
    subst hx1
    have HI4:=Lib.hid (HI.out.over HBw.out)
    have i0:=HI4.out.cell (j:=0) rfl
    have i1:=HI4.out.cell (j:=1) rfl
    have si:=HI4.out.lt
    obtain⟨N,hN⟩:∃ N,from'+ops.length=N:=⟨_,rfl⟩
    have eN:((from':Int)+(ops.length:Int))=(N:Int):=by omega
    have hNl:N<4611686018427387904:=by omega
    have HN:=Lib.hid hN
    clear hx hN
    go_wp2_with fail
    refine(pvid_any id N _ hNl).mono ?_
    rintro e w4 ⟨rfl,hb4⟩
    have HMid4:=Lib.hid (HMid.out.over hb4)
    clear hb4 k0 sk i0 i1 si eN
    go_upto_region 11 with((with_reducible show wpList _ _ _ ({dst:=_,op:=.store _ _ _,type:=_,pos:=_,after:=_,guard:=_} :: _) _ _);refine wpList_store_arrN rowVidE rfl _ _ rfl HMid4.out.names (atL_flat HAL.out hj) hmx (j*3) (encVid ⟨id,UInt8.ofNat N⟩) rfl rfl rfl (by rw [encVid_len];omega) (oneVid ⟨id,UInt8.ofNat N⟩) ?_;intro w5 hA5 hg5)
    have HMid5:=Lib.hid (HMid4.out.name HAL.out hlt hgl hne hA5 hg5)
    clear hA5 hg5
    have HF5:=Lib.hid (HF.out.over HMid5.out.below)
    have f0:=HF5.out.cell (j:=0) rfl
    have f1:=HF5.out.cell (j:=1) rfl
    have f2:=HF5.out.cell (j:=2) rfl
    have sf:=HF5.out.lt
    obtain⟨wa2,wc2,e2,_,_,_,hcw⟩:=SRow.form (HW.out.over HMid5.out.below)
    cases e2
    obtain⟨bw,offw,rfl,sbw,hcw2⟩:=hcw.resolve_left (by rw [← HMM.out];omega)
    have w0c:=hcw2 j t HTx.out
    have hN5:ops.length+1≤1099511627776:=by omega
    have hB5:=HMid5.out.below.size
    have HOw:=Lib.hid HMid5.out.own
    obtain⟨ops9,hops9⟩:∃ y,y=ops++[(⟨3,file,noVid,t⟩:OpM)]:=⟨_,rfl⟩
    have HO9e:=Lib.hid hops9
    have HAD2:=Lib.hid (adds_next2 HX.out HTx.out HAD.out)
    rw [HN.out,← hops9] at HAD2
    clear hcw hcw2 hops9
    go_simp
    have hcur:Below w5.heap.size w5 w5.drew:=(Below.refl _ _).drew
    refine wp_region_lex (C:=IsOver w5) 8 [] (by kernel_rfl) (by kernel_rfl) (isOver_of hcur) ?_
    simp only [List.take_succ_cons,List.take_zero,List.drop_succ_cons,List.drop_zero]
    repeat(first|(refine lex_skip rfl rfl ?_;simp only [Act.put,List.setIfInBounds_toArray,List.set_cons_succ,List.set_cons_zero])|(refine lex_one rfl ?_;go_big_quiet_step (fail);refine wpQuiet_nil ?_)|(refine lex_loud rfl ?_;go_wp2_with (first|(fail));refine⟨isOver_of (by first|exact hcur|exact hcur.alloc hcur.size _),?_⟩))
    refine lex_end ?_
    clear hcur
    go_wp2_with ((at_builtin;(first|refine wpList_append_newD slOp rfl _ _ rfl w0.heap.size _ _ (drawn_alloc_drewN _ _ _) 1 _ _ _ HOw.out rfl rfl rfl rfl hN5 (by decide) hB5 ?_|refine wpList_append_newD slOp rfl _ _ rfl w0.heap.size _ _ (drawn_drew _) 1 _ _ _ HOw.out rfl rfl rfl rfl hN5 (by decide) hB5 ?_|refine wpList_append_newD slOp rfl _ _ rfl w0.heap.size _ _ (drawn_drewN _ _) 1 _ _ _ HOw.out rfl rfl rfl rfl hN5 (by decide) hB5 ?_|refine wpList_append_newD slOp rfl _ _ rfl w0.heap.size _ _ (drawn_refl _) 1 _ _ _ HOw.out rfl rfl rfl rfl hN5 (by decide) hB5 ?_);intro v9 w9 ho9 hg9);(obtain⟨p9,c9,e9,hO9⟩:=oown_more (GOwn.snoc (x:=(⟨3,file,noVid,t⟩:OpM)) ho9) HO9e.out);subst e9;have HO9:=Lib.hid hO9;have HG9:=Lib.hid hg9;clear ho9 hg9 hO9)
    go_roundw
    case rel=>exact⟨j+1,ops9,_,p9,c9,hlt,by go_num,rfl,HAD2,HMid5.out.op HO9.out HG9.out⟩
    case measure=>simp [intOf];omega
   ·
    subst hx1
    obtain⟨x,hxv⟩:=get_of_lt hil
    have HXv:=Lib.hid hxv
    have HAD2:=Lib.hid (adds_next1 HX.out HTx.out hxv HAD.out)
    clear hx hxv
    go_wp2_with fail
    refine(svert_any s i x l R _ (HS.out.over HBw.out) HXv.out).mono ?_
    rintro e w4 ⟨rfl,hb4⟩
    have HMid4:=Lib.hid (HMid.out.over hb4)
    clear hb4 k0 sk
    go_upto_region 9 with(fail)
    have HA5:=Lib.hid (arr_new w4 #[.int .u8 x.id.pid.author.toNat,.int .u16 x.id.pid.seq.toNat,.int .u8 x.id.n.toNat,.int .u8 x.kind.toNat,.int .u8 x.file.pid.author.toNat,.int .u16 x.file.pid.seq.toNat,.int .u8 x.file.n.toNat,.string x.text,.bool x.dead] 88)
    have HB5:=Lib.hid (below_new (w:=w4) (.cells #[.int .u8 x.id.pid.author.toNat,.int .u16 x.id.pid.seq.toNat,.int .u8 x.id.n.toNat,.int .u8 x.kind.toNat,.int .u8 x.file.pid.author.toNat,.int .u16 x.file.pid.seq.toNat,.int .u8 x.file.n.toNat,.string x.text,.bool x.dead] 88))
    generalize hw5:w4.alloc (.cells #[.int .u8 x.id.pid.author.toNat,.int .u16 x.id.pid.seq.toNat,.int .u8 x.id.n.toNat,.int .u8 x.kind.toNat,.int .u8 x.file.pid.author.toNat,.int .u16 x.file.pid.seq.toNat,.int .u8 x.file.n.toNat,.string x.text,.bool x.dead] 88)=w5 at *
    clear hw5
    have HMid5:=Lib.hid (HMid4.out.over HB5.out)
    have y0:=HA5.out.cell (j:=0) rfl
    have y1:=HA5.out.cell (j:=1) rfl
    have y2:=HA5.out.cell (j:=2) rfl
    have y3:=HA5.out.cell (j:=3) rfl
    have y4:=HA5.out.cell (j:=4) rfl
    have y5:=HA5.out.cell (j:=5) rfl
    have y6:=HA5.out.cell (j:=6) rfl
    have y7:=HA5.out.cell (j:=7) rfl
    have y8:=HA5.out.cell (j:=8) rfl
    have sy:=HA5.out.lt
    go_wp2_with ((with_reducible show wpList _ _ _ ({dst:=_,op:=.store _ _ _,type:=_,pos:=_,after:=_,guard:=_} :: _) _ _);refine wpList_store_arrN rowVidE rfl _ _ rfl HMid5.out.names (atL_flat HAL.out hj) hmx (j*3) (encVid x.id) rfl rfl rfl (by rw [encVid_len];omega) (oneVid x.id) ?_;intro w6 hA5 hg5)
    have HMid6:=Lib.hid (HMid5.out.name HAL.out hlt hgl hne hA5 hg5)
    clear hA5 hg5
    go_roundw
    case rel=>exact⟨j+1,ops,_,p,c,hlt,by go_num,rfl,HAD2,HMid6⟩
    case measure=>simp [intOf];omega
  ·
   obtain rfl:m=j:=by omega
   have hal2:=HAL.out
   have HA2e:=HMid.out
   obtain⟨at2,hat2⟩:∃ at2,at2=at':=⟨_,rfl⟩
   rw [← hat2] at HAD HA2e hal2
   have HAL2:=Lib.hid hal2
   have HMd:=Lib.hid HA2e
   have htl:=ties_len R ks at2
   have HTL:=Lib.hid htl
   clear HA2e hal2 hat2 sk htl
   go_wp2_with fail
   go_loopw [12,69] (fun v12 v69 wq=>A2Rel w0 R ks at2 ops gK gA m v12 v69 wq) (fun _ v69 _=>m - (intOf v69).toNat)
   case atStart=>exact⟨0,ops,p,c,by omega,rfl,rfl,Lib.hid (by rw [ties_zero,List.append_nil]),HMd⟩
   case round =>
    obtain⟨q,ops2,p2,c2,hq,rfl,rfl,HO2,HM2⟩:=hrel
    rename World=>wq
    have hol2:ops2.length≤ops.length+m:=by
     rw [HO2.out,List.length_append];have:=HTL.out q;omega
    have sk:=HM2.out.kept.arr.lt
    by_cases hlt:q<m
    ·
     by_cases hq0:q=0
     ·
      subst hq0
      have HN:Hid (ops2=ops++tiesTo R ks at2 1):=by show _=_;rw [HO2.out,ties_zero,ties_one]
      go_wp2_with fail
      have hcur:Below wq.heap.size wq wq.drew:=(Below.refl _ _).drew
      refine wp_region_lex (C:=IsOver wq) 32 [] (by kernel_rfl) (by kernel_rfl) (isOver_of hcur) ?_
      simp only [List.take_succ_cons,List.take_zero,List.drop_succ_cons,List.drop_zero]
      repeat(first|(refine lex_skip rfl rfl ?_;simp only [Act.put,List.setIfInBounds_toArray,List.set_cons_succ,List.set_cons_zero])|(refine lex_one rfl ?_;go_big_quiet_step (fail);refine wpQuiet_nil ?_)|(refine lex_loud rfl ?_;go_wp2_with (first|(fail));refine⟨isOver_of hcur,?_⟩))
      refine lex_end ?_
      clear hcur
      go_wp2_with fail
      go_roundw
      case rel=>exact⟨1,ops2,p2,c2,hlt,by go_num,rfl,HN,HM2.out.over (Below.refl _ _).drew⟩
      case measure=>simp [intOf];omega
     ·
      obtain⟨q,rfl⟩:∃ k,q=k+1:=⟨q - 1,by omega⟩
      obtain⟨x,hx⟩:=get_of_lt (xs:=ks) (i:=q) (by rw [HKL.out,← HMM.out];omega)
      obtain⟨y,hy⟩:=get_of_lt (xs:=ks) (i:=q+1) (by rw [HKL.out,← HMM.out];exact hlt)
      obtain⟨u,hu⟩:=get_of_lt (xs:=at2) (i:=q) (by rw [HAL2.out];omega)
      obtain⟨v,hv⟩:=get_of_lt (xs:=at2) (i:=q+1) (by rw [HAL2.out];exact hlt)
      have k0:=HM2.out.kept.arr.cell (keptV1_get hx)
      have k1:=HM2.out.kept.arr.cell (keptV1_get hy)
      have HX:=Lib.hid hx
      have HYY:=Lib.hid hy
      have HU:=Lib.hid hu
      have HVV:=Lib.hid hv
      have HSq:=Lib.hid (HS.out.over HM2.out.below)
      have HM3:=Lib.hid (HM2.out.over (Below.refl wq.heap.size wq).drew)
      have hN5:ops2.length+1≤1099511627776:=by omega
      have dq:decide ((0:Int)<(q:Int)+1)=true:=decide_eq_true (by omega)
      clear hu hv hq0
      rcases HKI.out q x hx with hx1|⟨i,hx1,hil⟩
      ·
       subst hx1
       have HN:=Lib.hid (ties_yes (R:=R) HX.out HYY.out HU.out HVV.out (.inl (by decide)))
       clear hx hy
       go_wp2_with fail
       have hcur:Below wq.heap.size wq wq.drew:=(Below.refl _ _).drew
       refine wp_region_lex (C:=IsOver wq) 32 [] (by kernel_rfl) (by kernel_rfl) (isOver_of hcur) ?_
       simp only [List.take_succ_cons,List.take_zero,List.drop_succ_cons,List.drop_zero]
       repeat(first|(refine lex_skip rfl rfl ?_;simp only [Act.put,List.setIfInBounds_toArray,List.set_cons_succ,List.set_cons_zero])|(refine lex_one rfl ?_;go_big_quiet_step (fail);refine wpQuiet_nil ?_)|(refine lex_loud rfl ?_;go_wp2_with (first|(fail));refine⟨isOver_of hcur,?_⟩))
       refine lex_end ?_
       clear hcur
       generalize hwd:wq.drew=wd at *
       clear hwd k0 k1 sk
       have HNm:=Lib.hid (show ArrT wd gA 40 (at2.flatMap encVid) by(have hnm:=HM3.out.names;rw [atL_all] at hnm;exact hnm))
       have n0:wd.cell? ⟨gA,q*3,none⟩=some (.int .u8 u.pid.author.toNat):=HNm.out.arr.cell ((flat_get encVid_len _ q 0 u HU.out (by decide)).trans rfl)
       have n1:wd.cell? ⟨gA,q*3+1,none⟩=some (.int .u16 u.pid.seq.toNat):=HNm.out.arr.cell ((flat_get encVid_len _ q 1 u HU.out (by decide)).trans rfl)
       have n2:wd.cell? ⟨gA,q*3+2,none⟩=some (.int .u8 u.n.toNat):=HNm.out.arr.cell ((flat_get encVid_len _ q 2 u HU.out (by decide)).trans rfl)
       have n3:wd.cell? ⟨gA,(q+1)*3,none⟩=some (.int .u8 v.pid.author.toNat):=HNm.out.arr.cell ((flat_get encVid_len _ (q+1) 0 v HVV.out (by decide)).trans rfl)
       have n4:wd.cell? ⟨gA,(q+1)*3+1,none⟩=some (.int .u16 v.pid.seq.toNat):=HNm.out.arr.cell ((flat_get encVid_len _ (q+1) 1 v HVV.out (by decide)).trans rfl)
       have n5:wd.cell? ⟨gA,(q+1)*3+2,none⟩=some (.int .u8 v.n.toNat):=HNm.out.arr.cell ((flat_get encVid_len _ (q+1) 2 v HVV.out (by decide)).trans rfl)
       have sn:=HNm.out.arr.lt
       have hB5:=HM3.out.below.size
       have HOw:=Lib.hid HM3.out.own
       obtain⟨ops9,hops9⟩:∃ z,z=ops2++[(⟨4,u,v,⟨#[]⟩⟩:OpM)]:=⟨_,rfl⟩
       have HO9e:=Lib.hid hops9
       have HN9:Hid (ops9=ops++tiesTo R ks at2 (q+1+1)):=by show _=_;rw [HN.out,← List.append_assoc,← HO2.out];exact hops9
       clear hops9
       go_wp2_with fail
       have hcur:Below wd.heap.size wd wd.drew:=(Below.refl _ _).drew
       refine wp_region_lex (C:=IsOver wd) 12 [] (by kernel_rfl) (by kernel_rfl) (isOver_of hcur) ?_
       simp only [List.take_succ_cons,List.take_zero,List.drop_succ_cons,List.drop_zero]
       repeat(first|(refine lex_skip rfl rfl ?_;simp only [Act.put,List.setIfInBounds_toArray,List.set_cons_succ,List.set_cons_zero])|(refine lex_one rfl ?_;go_big_quiet_step (fail);refine wpQuiet_nil ?_)|(refine lex_loud rfl ?_;go_wp2_with (first|(fail));refine⟨isOver_of (by first|exact hcur|exact hcur.alloc hcur.size _),?_⟩))
       refine lex_end ?_
       clear hcur
       go_wp2_with ((at_builtin;(first|refine wpList_append_newD slOp rfl _ _ rfl w0.heap.size _ _ (drawn_alloc_drewN _ _ _) 1 _ _ _ HOw.out rfl rfl rfl rfl hN5 (by decide) hB5 ?_|refine wpList_append_newD slOp rfl _ _ rfl w0.heap.size _ _ (drawn_drew _) 1 _ _ _ HOw.out rfl rfl rfl rfl hN5 (by decide) hB5 ?_|refine wpList_append_newD slOp rfl _ _ rfl w0.heap.size _ _ (drawn_drewN _ _) 1 _ _ _ HOw.out rfl rfl rfl rfl hN5 (by decide) hB5 ?_|refine wpList_append_newD slOp rfl _ _ rfl w0.heap.size _ _ (drawn_refl _) 1 _ _ _ HOw.out rfl rfl rfl rfl hN5 (by decide) hB5 ?_);intro v9 w9 ho9 hg9);(obtain⟨p9,c9,e9,hO9⟩:=oown_more (GOwn.snoc (x:=(⟨4,u,v,⟨#[]⟩⟩:OpM)) ho9) HO9e.out);subst e9;have HO9:=Lib.hid hO9;have HG9:=Lib.hid hg9;clear ho9 hg9 hO9)
       go_roundw
       case rel=>exact⟨q+1+1,ops9,p9,c9,hlt,by go_num,rfl,HN9,HM3.out.op HO9.out HG9.out⟩
       case measure=>simp [intOf];omega
      ·
       subst hx1
       have ei:decide ((i:Int)<0)=false:=decide_eq_false (by omega)
       rcases HKI.out (q+1) y hy with hy1|⟨i2,hy1,hil2⟩
       ·
        subst hy1
        have HN:=Lib.hid (ties_yes (R:=R) HX.out HYY.out HU.out HVV.out (.inr (.inl (by decide))))
        clear hx hy
        go_wp2_with fail
        have hcur:Below wq.heap.size wq wq.drew:=(Below.refl _ _).drew
        refine wp_region_lex (C:=IsOver wq) 32 [] (by kernel_rfl) (by kernel_rfl) (isOver_of hcur) ?_
        simp only [List.take_succ_cons,List.take_zero,List.drop_succ_cons,List.drop_zero]
        repeat(first|(refine lex_skip rfl rfl ?_;simp only [Act.put,List.setIfInBounds_toArray,List.set_cons_succ,List.set_cons_zero])|(refine lex_one rfl ?_;go_big_quiet_step (fail);refine wpQuiet_nil ?_)|(refine lex_loud rfl ?_;go_wp2_with (first|(fail));refine⟨isOver_of hcur,?_⟩))
        refine lex_end ?_
        clear hcur
        generalize hwd:wq.drew=wd at *
        clear hwd k0 k1 sk
        have HNm:=Lib.hid (show ArrT wd gA 40 (at2.flatMap encVid) by(have hnm:=HM3.out.names;rw [atL_all] at hnm;exact hnm))
        have n0:wd.cell? ⟨gA,q*3,none⟩=some (.int .u8 u.pid.author.toNat):=HNm.out.arr.cell ((flat_get encVid_len _ q 0 u HU.out (by decide)).trans rfl)
        have n1:wd.cell? ⟨gA,q*3+1,none⟩=some (.int .u16 u.pid.seq.toNat):=HNm.out.arr.cell ((flat_get encVid_len _ q 1 u HU.out (by decide)).trans rfl)
        have n2:wd.cell? ⟨gA,q*3+2,none⟩=some (.int .u8 u.n.toNat):=HNm.out.arr.cell ((flat_get encVid_len _ q 2 u HU.out (by decide)).trans rfl)
        have n3:wd.cell? ⟨gA,(q+1)*3,none⟩=some (.int .u8 v.pid.author.toNat):=HNm.out.arr.cell ((flat_get encVid_len _ (q+1) 0 v HVV.out (by decide)).trans rfl)
        have n4:wd.cell? ⟨gA,(q+1)*3+1,none⟩=some (.int .u16 v.pid.seq.toNat):=HNm.out.arr.cell ((flat_get encVid_len _ (q+1) 1 v HVV.out (by decide)).trans rfl)
        have n5:wd.cell? ⟨gA,(q+1)*3+2,none⟩=some (.int .u8 v.n.toNat):=HNm.out.arr.cell ((flat_get encVid_len _ (q+1) 2 v HVV.out (by decide)).trans rfl)
        have sn:=HNm.out.arr.lt
        have hB5:=HM3.out.below.size
        have HOw:=Lib.hid HM3.out.own
        obtain⟨ops9,hops9⟩:∃ z,z=ops2++[(⟨4,u,v,⟨#[]⟩⟩:OpM)]:=⟨_,rfl⟩
        have HO9e:=Lib.hid hops9
        have HN9:Hid (ops9=ops++tiesTo R ks at2 (q+1+1)):=by show _=_;rw [HN.out,← List.append_assoc,← HO2.out];exact hops9
        clear hops9
        go_wp2_with fail
        have hcur:Below wd.heap.size wd wd.drew:=(Below.refl _ _).drew
        refine wp_region_lex (C:=IsOver wd) 12 [] (by kernel_rfl) (by kernel_rfl) (isOver_of hcur) ?_
        simp only [List.take_succ_cons,List.take_zero,List.drop_succ_cons,List.drop_zero]
        repeat(first|(refine lex_skip rfl rfl ?_;simp only [Act.put,List.setIfInBounds_toArray,List.set_cons_succ,List.set_cons_zero])|(refine lex_one rfl ?_;go_big_quiet_step (fail);refine wpQuiet_nil ?_)|(refine lex_loud rfl ?_;go_wp2_with (first|(fail));refine⟨isOver_of (by first|exact hcur|exact hcur.alloc hcur.size _),?_⟩))
        refine lex_end ?_
        clear hcur
        go_wp2_with ((at_builtin;(first|refine wpList_append_newD slOp rfl _ _ rfl w0.heap.size _ _ (drawn_alloc_drewN _ _ _) 1 _ _ _ HOw.out rfl rfl rfl rfl hN5 (by decide) hB5 ?_|refine wpList_append_newD slOp rfl _ _ rfl w0.heap.size _ _ (drawn_drew _) 1 _ _ _ HOw.out rfl rfl rfl rfl hN5 (by decide) hB5 ?_|refine wpList_append_newD slOp rfl _ _ rfl w0.heap.size _ _ (drawn_drewN _ _) 1 _ _ _ HOw.out rfl rfl rfl rfl hN5 (by decide) hB5 ?_|refine wpList_append_newD slOp rfl _ _ rfl w0.heap.size _ _ (drawn_refl _) 1 _ _ _ HOw.out rfl rfl rfl rfl hN5 (by decide) hB5 ?_);intro v9 w9 ho9 hg9);(obtain⟨p9,c9,e9,hO9⟩:=oown_more (GOwn.snoc (x:=(⟨4,u,v,⟨#[]⟩⟩:OpM)) ho9) HO9e.out);subst e9;have HO9:=Lib.hid hO9;have HG9:=Lib.hid hg9;clear ho9 hg9 hO9)
        go_roundw
        case rel=>exact⟨q+1+1,ops9,p9,c9,hlt,by go_num,rfl,HN9,HM3.out.op HO9.out HG9.out⟩
        case measure=>simp [intOf];omega
       ·
        subst hy1
        have ei2:decide ((i2:Int)<0)=false:=decide_eq_false (by omega)
        clear hx hy
        cases hb:befB R i i2 with
        | true =>
         have HBV:=Lib.hid hb
         have HN:=Lib.hid (ties_no (R:=R) (at':=at2) HX.out HYY.out (Int.natCast_nonneg i) (Int.natCast_nonneg i2) hb)
         clear hb
         go_wp2_with fail
         have hcur:Below wq.heap.size wq wq.drew:=(Below.refl _ _).drew
         refine wp_region_lex (C:=IsOver wq) 32 [] (by kernel_rfl) (by kernel_rfl) (isOver_of hcur) ?_
         simp only [List.take_succ_cons,List.take_zero,List.drop_succ_cons,List.drop_zero]
         repeat(first|(refine lex_skip rfl rfl ?_;simp only [Act.put,List.setIfInBounds_toArray,List.set_cons_succ,List.set_cons_zero])|(refine lex_one rfl ?_;go_big_quiet_step (fail);refine wpQuiet_nil ?_)|(refine lex_loud rfl ?_;go_wp2_with (first|(go_at_call 43;(with_reducible refine(srel_any s l R _ (HSq.out.over hcur)).mono ?_);rintro e w' ⟨⟨r,rfl,hr⟩,rfl⟩;have HRL:=Lib.hid hr;clear hr)|(go_at_call 44;(with_reducible refine(rchBefore_any r l.length i i2 R _ HRL.out (by omega) (by omega)).mono ?_);rintro e w' ⟨rfl,rfl⟩;rw [HBV.out]));refine⟨isOver_of hcur,?_⟩))
         refine lex_end ?_
         clear hcur
         go_wp2_with fail
         go_roundw
         case rel=>exact⟨q+1+1,ops2,p2,c2,hlt,by go_num,rfl,Lib.hid (by rw [HN.out];exact HO2.out),HM3⟩
         case measure=>simp [intOf];omega
        | false =>
         have HBV:=Lib.hid hb
         have HN:=Lib.hid (ties_yes (R:=R) HX.out HYY.out HU.out HVV.out (.inr (.inr hb)))
         clear hb
         go_wp2_with fail
         have hcur:Below wq.heap.size wq wq.drew:=(Below.refl _ _).drew
         refine wp_region_lex (C:=IsOver wq) 32 [] (by kernel_rfl) (by kernel_rfl) (isOver_of hcur) ?_
         simp only [List.take_succ_cons,List.take_zero,List.drop_succ_cons,List.drop_zero]
         repeat(first|(refine lex_skip rfl rfl ?_;simp only [Act.put,List.setIfInBounds_toArray,List.set_cons_succ,List.set_cons_zero])|(refine lex_one rfl ?_;go_big_quiet_step (fail);refine wpQuiet_nil ?_)|(refine lex_loud rfl ?_;go_wp2_with (first|(go_at_call 43;(with_reducible refine(srel_any s l R _ (HSq.out.over hcur)).mono ?_);rintro e w' ⟨⟨r,rfl,hr⟩,rfl⟩;have HRL:=Lib.hid hr;clear hr)|(go_at_call 44;(with_reducible refine(rchBefore_any r l.length i i2 R _ HRL.out (by omega) (by omega)).mono ?_);rintro e w' ⟨rfl,rfl⟩;rw [HBV.out]));refine⟨isOver_of hcur,?_⟩))
         refine lex_end ?_
         clear hcur
         generalize hwd:wq.drew=wd at *
         clear hwd k0 k1 sk
         have HNm:=Lib.hid (show ArrT wd gA 40 (at2.flatMap encVid) by(have hnm:=HM3.out.names;rw [atL_all] at hnm;exact hnm))
         have n0:wd.cell? ⟨gA,q*3,none⟩=some (.int .u8 u.pid.author.toNat):=HNm.out.arr.cell ((flat_get encVid_len _ q 0 u HU.out (by decide)).trans rfl)
         have n1:wd.cell? ⟨gA,q*3+1,none⟩=some (.int .u16 u.pid.seq.toNat):=HNm.out.arr.cell ((flat_get encVid_len _ q 1 u HU.out (by decide)).trans rfl)
         have n2:wd.cell? ⟨gA,q*3+2,none⟩=some (.int .u8 u.n.toNat):=HNm.out.arr.cell ((flat_get encVid_len _ q 2 u HU.out (by decide)).trans rfl)
         have n3:wd.cell? ⟨gA,(q+1)*3,none⟩=some (.int .u8 v.pid.author.toNat):=HNm.out.arr.cell ((flat_get encVid_len _ (q+1) 0 v HVV.out (by decide)).trans rfl)
         have n4:wd.cell? ⟨gA,(q+1)*3+1,none⟩=some (.int .u16 v.pid.seq.toNat):=HNm.out.arr.cell ((flat_get encVid_len _ (q+1) 1 v HVV.out (by decide)).trans rfl)
         have n5:wd.cell? ⟨gA,(q+1)*3+2,none⟩=some (.int .u8 v.n.toNat):=HNm.out.arr.cell ((flat_get encVid_len _ (q+1) 2 v HVV.out (by decide)).trans rfl)
         have sn:=HNm.out.arr.lt
         have hB5:=HM3.out.below.size
         have HOw:=Lib.hid HM3.out.own
         obtain⟨ops9,hops9⟩:∃ z,z=ops2++[(⟨4,u,v,⟨#[]⟩⟩:OpM)]:=⟨_,rfl⟩
         have HO9e:=Lib.hid hops9
         have HN9:Hid (ops9=ops++tiesTo R ks at2 (q+1+1)):=by show _=_;rw [HN.out,← List.append_assoc,← HO2.out];exact hops9
         clear hops9
         go_wp2_with fail
         have hcur:Below wd.heap.size wd wd.drew:=(Below.refl _ _).drew
         refine wp_region_lex (C:=IsOver wd) 12 [] (by kernel_rfl) (by kernel_rfl) (isOver_of hcur) ?_
         simp only [List.take_succ_cons,List.take_zero,List.drop_succ_cons,List.drop_zero]
         repeat(first|(refine lex_skip rfl rfl ?_;simp only [Act.put,List.setIfInBounds_toArray,List.set_cons_succ,List.set_cons_zero])|(refine lex_one rfl ?_;go_big_quiet_step (fail);refine wpQuiet_nil ?_)|(refine lex_loud rfl ?_;go_wp2_with (first|(fail));refine⟨isOver_of (by first|exact hcur|exact hcur.alloc hcur.size _),?_⟩))
         refine lex_end ?_
         clear hcur
         go_wp2_with ((at_builtin;(first|refine wpList_append_newD slOp rfl _ _ rfl w0.heap.size _ _ (drawn_alloc_drewN _ _ _) 1 _ _ _ HOw.out rfl rfl rfl rfl hN5 (by decide) hB5 ?_|refine wpList_append_newD slOp rfl _ _ rfl w0.heap.size _ _ (drawn_drew _) 1 _ _ _ HOw.out rfl rfl rfl rfl hN5 (by decide) hB5 ?_|refine wpList_append_newD slOp rfl _ _ rfl w0.heap.size _ _ (drawn_drewN _ _) 1 _ _ _ HOw.out rfl rfl rfl rfl hN5 (by decide) hB5 ?_|refine wpList_append_newD slOp rfl _ _ rfl w0.heap.size _ _ (drawn_refl _) 1 _ _ _ HOw.out rfl rfl rfl rfl hN5 (by decide) hB5 ?_);intro v9 w9 ho9 hg9);(obtain⟨p9,c9,e9,hO9⟩:=oown_more (GOwn.snoc (x:=(⟨4,u,v,⟨#[]⟩⟩:OpM)) ho9) HO9e.out);subst e9;have HO9:=Lib.hid hO9;have HG9:=Lib.hid hg9;clear ho9 hg9 hO9)
         go_roundw
         case rel=>exact⟨q+1+1,ops9,p9,c9,hlt,by go_num,rfl,HN9,HM3.out.op HO9.out HG9.out⟩
         case measure=>simp [intOf];omega
    ·
     obtain rfl:m=q:=by omega
     have HE:=Lib.hid (HM2.out.own.base HB.out.size)
     have HBe:=Lib.hid (below_over HB.out HB.out.size HM2.out.below)
     go_wp2_with fail
     go_ret
     exact⟨_,rfl,(by rw [HKS.out,HKLL.out,← HMM.out,← HAD.out];show GOwn _ _ _ _ _ _ (ops++tiesTo R ks at2 m);rw [← HO2.out];exact HE.out),HBe.out⟩
end Go.Proofs.YtllcipobiengiaaGreat
namespace Go.Proofs.YtllcipobiengiaaGreat
open Go Go.RowKit

/-! ### few -/
def fewX(xs:List ByteArray):Bool:=decide (xs.length≤30) && xs.all fun x=>decide (x.size≤100)
set_option maxHeartbeats 4000000 in
set_option maxRecDepth 100000 in
theorem few27_any(v:Value)(l:List ByteArray)(w:World)(hv:SRow w v l) :
  Calls Tryz.prog 10 #[v] w fun e w'=>e=.returned (.bool (fewX l))∧Below w.heap.size w w':=by
 obtain⟨a,cap,rfl,h1,h2,h3,hc⟩:=SRow.form hv
 unfold maxLen at h2
 have HC:=Lib.hid hc
 clear hv hc
 by_cases hlen:l.length≤30
 ·
  go_enter Tryz.func10,Tryz.ntmps10
  have hg:decide ((l.length:Int) > 30)=false:=decide_eq_false (by omega)
  go_wp2_with fail
  go_loopw [3] (fun i wr=>∃ k:Nat,k≤l.length∧i=.int .i64 k∧Hid ((l.take k).all (fun x=>decide (x.size≤100))=true)∧Below w.heap.size w wr) (fun i _=>l.length - (intOf i).toNat)
  case atStart=>exact⟨0,by omega,rfl,rfl,Below.refl _ _⟩
  case round =>
   obtain⟨k,hk,rfl,HK,hbl⟩:=hrel
   by_cases hlt:k<l.length
   ·
    obtain⟨bl,ol,rfl,sl,hcl⟩:=HC.out.resolve_left (by omega)
    obtain⟨x,hx⟩:=get_of_lt hlt
    have x0:wr.cell? ⟨bl,ol+k,none⟩=some (.string x):=by rw [hbl.cell sl];exact hcl k x hx
    have HX:=Lib.hid hx
    clear hcl hx
    by_cases hxy:x.size≤100
    ·
     have hg2:decide ((x.size:Int) > 100)=false:=decide_eq_false (by omega)
     have HK2:Hid ((l.take (k+1)).all (fun x=>decide (x.size≤100))=true):=by show _=_;rw [take_succ_get HX.out,List.all_append,HK.out];simp [hxy]
     go_wp2_with fail
     go_roundw
     case rel=>exact⟨k+1,hlt,by go_num,HK2,hbl⟩
     case measure=>simp [intOf];omega
    ·
     have hg2:decide ((x.size:Int) > 100)=true:=decide_eq_true (by omega)
     have HN:Hid (fewX l=false):=by
      show _=_;unfold fewX;rw [Bool.and_eq_false_iff];right
      rw [List.all_eq_false]
      exact⟨x,List.mem_of_getElem? HX.out,by simp [hxy]⟩
     go_wp2_with fail
     go_ret
     exact⟨ret_val (congrArg Value.bool HN.out.symm),hbl⟩
   ·
    obtain rfl:k=l.length:=by omega
    have HN:Hid (fewX l=true):=by
     have:=HK.out
     rw [List.take_length] at this
     show _=_;unfold fewX;rw [this];simp [hlen]
    go_wp2_with fail
    go_ret
    exact⟨ret_val (congrArg Value.bool HN.out.symm),hbl⟩
 ·
  have HN:Hid (fewX l=false):=by show _=_;unfold fewX;simp;omega
  have hg:decide ((l.length:Int) > 30)=true:=decide_eq_true (by omega)
  go_enter Tryz.func10,Tryz.ntmps10
  go_wp2_with fail
  go_ret
  exact⟨ret_val (congrArg Value.bool HN.out.symm),Below.refl _ _⟩
end Go.Proofs.YtllcipobiengiaaGreat
namespace Go.Proofs.YtllcipobiengiaaGreat
open Go Go.RowKit

theorem putS_lenF{α:Type}{key:α→Nat}(x:α):∀ r:List α,(putS key x r).length≤r.length+1
 | []=>by simp [putS]
 | y :: r=>by
  have:=putS_lenF (key:=key) x r
  rw [putS]
  split
  ·
   simp
  ·
   split
   ·
    simp
   ·
    simp only [List.length_cons];omega
theorem setS_few{α:Type}{key:α→Nat}(l:List α):(setS key l).length≤l.length:=by
 have:∀(l out:List α),(l.foldl (fun out x=>putS key x out) out).length≤out.length+l.length:=by
  intro l
  induction l with
  | nil=>intro out;simp
  | cons x l ih =>
   intro out
   have h1:=ih (putS key x out)
   have h2:=putS_lenF (key:=key) x out
   rw [List.foldl_cons,List.length_cons];omega
 have:=this l []
 simpa [setS] using this
theorem flat_few{α β:Type}(f:α→List β)(b:Nat):∀ l:List α,(∀ x∈l,(f x).length≤b)→(l.flatMap f).length≤b*l.length
 | [],_=>by simp
 | x :: l,h=>by
  have h1:=h x (List.mem_cons_self ..)
  have h2:=flat_few f b l fun y hy=>h y (List.mem_cons_of_mem _ hy)
  rw [List.flatMap_cons,List.length_append,List.length_cons,Nat.mul_succ]
  omega
theorem idsOf_few(L:List PatchM)(b:Nat)(h:∀ p∈L,p.ops.length≤b):(idsOf L).length≤b*L.length:=by
 refine flat_few _ b L fun p hp=>Nat.le_trans (List.length_filterMap_le _ _) ?_
 rw [List.length_range];exact h p hp
theorem edgesOf_few(L:List PatchM)(b:Nat)(h:∀ p∈L,p.ops.length≤b):(edgesOf L).length≤b*L.length:=
 flat_few _ b L fun p hp=>Nat.le_trans (List.length_filterMap_le _ _) (h p hp)
theorem fewX_len{xs:List ByteArray}(h:fewX xs=true):xs.length≤30:=by
 unfold fewX at h
 simp only [Bool.and_eq_true,decide_eq_true_eq] at h
 exact h.1
end Go.Proofs.YtllcipobiengiaaGreat
namespace Go.Proofs.YtllcipobiengiaaGreat
open Go Go.RowKit

theorem own_slM{α:Type}{enc:α→List Value}{sz:Nat}{e:TypeId}{w:World}{B:Nat}{v:Value}{xs:List α}(h:GOwn enc sz e w B v xs):∃ p c,v=.slice p xs.length c:=by
 rcases h.2 with⟨rfl,h0⟩|⟨g,cap,cur,rfl,_⟩
 ·
  exact⟨none,0,by rw [h0]⟩
 ·
  exact⟨_,_,rfl⟩
theorem gown_keepM{α:Type}{enc:α→List Value}{sz:Nat}{e:TypeId}{w w':World}{B:Nat}{v:Value}{xs:List α}{row:Option Nat}(h:GOwn enc sz e w B v xs)(hg:w.grownBy w' row)(hr:∀ k,row=some k→k<B):GOwn enc sz e w' B v xs:=
 own_grown h hg (by
  cases hv:v.ownBlock with
  | none=>exact .inl rfl
  | some k=>exact .inr fun q=>by have:=gown_base h hv;have:=hr k q.symm;omega)

theorem rowPat:RowT Tryz.prog 61 4:=rowT_of Tryz.underlying61 rfl (by kernel_rfl)
def MakeRes(w:World)(id:PidM)(ops:List OpM)(e:Ending)(w':World):Prop:=∃ pd cd po co,e=.returned (.tuple #[.agg #[.int .u8 id.author.toNat,.int .u16 id.seq.toNat,.slice pd (depsM id ops).length cd,.slice po ops.length co],.int .i64 0])∧GOwn encPid 2 26 w' w.heap.size (.slice pd (depsM id ops).length cd) (depsM id ops)∧GOwn encOp 8 58 w' w.heap.size (.slice po ops.length co) ops∧Below w.heap.size w w'
attribute [local irreducible] depsM goodQ
set_option maxHeartbeats 8000000 in
set_option maxRecDepth 100000 in
theorem pmake_any(id:PidM)(v:Value)(ops:List OpM)(w:World)(hv:GRow encOp 8 w v ops)(hl:ops.length≤1000)(hz:∀ o∈ops,o.text.size≤maxLen)(hg:goodQ id (depsM id ops) ops=true) :
  Calls Tryz.prog 22 #[pidV id,v] w (MakeRes w id ops):=by
 have HI:=Lib.hid ((arr_new w #[.int .u8 id.author.toNat,.int .u16 id.seq.toNat] 26).alloc (.cells #[.int .u8 0,.int .u16 0,.slice none 0 0,.slice none 0 0] 61))
 have HR:=Lib.hid (arr_new2 w (.cells #[.int .u8 id.author.toNat,.int .u16 id.seq.toNat] 26) #[.int .u8 0,.int .u16 0,.slice none 0 0,.slice none 0 0] 61)
 have HB:=Lib.hid ((below_new (w:=w) (.cells #[.int .u8 id.author.toNat,.int .u16 id.seq.toNat] 26)).alloc (by simp) (.cells #[.int .u8 0,.int .u16 0,.slice none 0 0,.slice none 0 0] 61))
 have HV:=Lib.hid (hv.over HB.out)
 have HZs:=Lib.hid hz
 have HG:=Lib.hid hg
 clear hv hz hg
 unfold pidV
 go_enter Tryz.func22,Tryz.ntmps22
 go_upto_region 1 with(fail)
 have hs0:((w.alloc (.cells #[.int .u8 id.author.toNat,.int .u16 id.seq.toNat] 26)).alloc (.cells #[.int .u8 0,.int .u16 0,.slice none 0 0,.slice none 0 0] 61)).heap.size=w.heap.size+1+1:=by simp
 generalize hw0:(w.alloc (.cells #[.int .u8 id.author.toNat,.int .u16 id.seq.toNat] 26)).alloc (.cells #[.int .u8 0,.int .u16 0,.slice none 0 0,.slice none 0 0] 61)=w0 at *
 have HS0:=Lib.hid hs0
 clear hw0 hs0
 have i0:=HI.out.cell (j:=0) rfl
 have i1:=HI.out.cell (j:=1) rfl
 have si:=HI.out.lt
 have HS:Hid (∀ w':World,Below w0.heap.size w0 w'→(w'.cell? ⟨w.heap.size,0,none⟩=some (.int .u8 id.author.toNat)∧w'.cell? ⟨w.heap.size,1,none⟩=some (.int .u16 id.seq.toNat)∧Below w0.heap.size w0 w')):=fun w' hb=>⟨(hb.cell (p:=⟨w.heap.size,0,none⟩) si).trans i0,(hb.cell (p:=⟨w.heap.size,1,none⟩) si).trans i1,hb⟩
 go_cut [6] (fun s6 wx=>∃ g6 pd cd po co,s6=.pointer (some ⟨g6,0,none⟩)∧Hid (ArrT wx g6 61 [.int .u8 id.author.toNat,.int .u16 id.seq.toNat,.slice pd (depsM id ops).length cd,.slice po ops.length co])∧Hid (GOwn encPid 2 26 wx w0.heap.size (.slice pd (depsM id ops).length cd) (depsM id ops))∧Hid (GOwn encOp 8 58 wx w0.heap.size (.slice po ops.length co) ops)∧Hid (Below w0.heap.size w0 wx))
 case first =>
  go_region_held3 (fun w'=>w'.cell? ⟨w.heap.size,0,none⟩=some (.int .u8 id.author.toNat)∧w'.cell? ⟨w.heap.size,1,none⟩=some (.int .u16 id.seq.toNat)∧Below w0.heap.size w0 w') ((refine HS.out _ ?_;(with_reducible (first|exact(Below.refl _ _).drew|exact HBc.out|exact HBc.out.alloc HBc.out.size _|exact HBd.out|exact HBd.out.alloc HBd.out.size _|exact((Below.refl w0.heap.size w0).alloc (Nat.le_refl _) _).drew|exact((((HBc.out.setCell (p:=⟨w0.heap.size,0,none⟩) (Nat.le_refl _) (.int .u8 id.author.toNat)).setCell (p:=⟨w0.heap.size,1,none⟩) (Nat.le_refl _) (.int .u16 id.seq.toNat)).setCell (p:=⟨w0.heap.size,2,none⟩) (Nat.le_refl _) (.slice pd (depsM id ops).length cd)).setCell (p:=⟨w0.heap.size,3,none⟩) (Nat.le_refl _) (.slice po ops.length co))|exact((((HBc.out.setCell (p:=⟨w5.heap.size,0,none⟩) HBd.out.size (.int .u8 id.author.toNat)).setCell (p:=⟨w5.heap.size,1,none⟩) HBd.out.size (.int .u16 id.seq.toNat)).setCell (p:=⟨w5.heap.size,2,none⟩) HBd.out.size (.slice pd (depsM id ops).length cd)).setCell (p:=⟨w5.heap.size,3,none⟩) HBd.out.size (.slice po ops.length co))))))
   (first|(go_at_call 63;refine(pdeps_any id v ops _ (HV.out.over (by first|exact(Below.refl _ _).drew|exact((Below.refl w0.heap.size w0).alloc (Nat.le_refl _) _).drew)) (by omega)).mono ?_;rintro e w5 ⟨dv,rfl,ho5,hb5⟩;obtain⟨pd,cd,hdv⟩:=own_slM ho5;subst hdv;have HBd:Hid (Below w0.heap.size w0 w5):=(by show Below w0.heap.size w0 w5;with_reducible (first|exact below_over (Below.refl w0.heap.size w0).drew (Nat.le_refl _) hb5|exact below_over (((Below.refl w0.heap.size w0).alloc (Nat.le_refl _) _).drew) (Below.size (((Below.refl w0.heap.size w0).alloc (Nat.le_refl _) _).drew)) hb5));have HO5:Hid (GOwn encPid 2 26 w5 w0.heap.size (.slice pd (depsM id ops).length cd) (depsM id ops)):=Lib.hid (ho5.base (by first|exact Nat.le_refl _|(simp)));have HB5b:=Lib.hid hb5;have hs5:=hb5.size;(try(have hs5b:w0.heap.size<w5.heap.size:=(by have h:=hb5.size;simp at h;omega)));clear hs5;obtain⟨hc5,hf5⟩:=bcell hb5;clear ho5 hb5) |
    (go_at_call 64;refine(cloneOp v ops _ (HV.out.over (by first|exact HBd.out|exact HBd.out.alloc HBd.out.size _)) (by omega)).mono ?_;rintro e w6 ⟨ov,rfl,ho6,hb6⟩;obtain⟨po,co,hov⟩:=own_slM ho6;subst hov;have HBc:Hid (Below w0.heap.size w0 w6):=(by show Below w0.heap.size w0 w6;with_reducible (first|exact below_over HBd.out HBd.out.size hb6|exact below_over (HBd.out.alloc HBd.out.size _) (Below.size (HBd.out.alloc HBd.out.size _)) hb6));have HO6:Hid (GOwn encOp 8 58 w6 w0.heap.size (.slice po ops.length co) ops):=Lib.hid (ho6.base (by have:=HBd.out.size;first|exact this|(simp;omega)));have HO56:Hid (GOwn encPid 2 26 w6 w0.heap.size (.slice pd (depsM id ops).length cd) (depsM id ops)):=Lib.hid (by first|exact HO5.out.over hb6|exact(HO5.out.over (below_new _)).over hb6);have HB6b:=Lib.hid hb6;obtain⟨hc6,hf6⟩:=bcell hb6;clear ho6 hb6))
  ·
   rename_i J K hJ hK hHeld
   clear hHeld
   refine hK _ _ (Met.intro (hJ _ _ ?_))
   (repeat apply Exists.intro)
   refine⟨?_,rfl⟩
   exact⟨_,pd,cd,po,co,rfl,Lib.hid (arrT_new w6 [.int .u8 id.author.toNat,.int .u16 id.seq.toNat,.slice pd (depsM id ops).length cd,.slice po ops.length co] 61),Lib.hid (HO56.out.over (below_new _)),Lib.hid (HO6.out.over (below_new _)),Lib.hid (HBc.out.alloc HBc.out.size _)⟩
  ·
   rename_i J K hJ hK hHeld
   clear hHeld
   refine hK _ _ (Met.intro (hJ _ _ ?_))
   (repeat apply Exists.intro)
   refine⟨?_,rfl⟩
   have HZ:Hid (ArrT w6 w5.heap.size 61 [.int .u8 0,.int .u16 0,.slice none 0 0,.slice none 0 0]):=Lib.hid ((arrT_new w5 [.int .u8 0,.int .u16 0,.slice none 0 0,.slice none 0 0] 61).over HB6b.out)
   have nd:(Value.slice pd (depsM id ops).length cd).ownBlock=none∨(Value.slice pd (depsM id ops).length cd).ownBlock≠some w5.heap.size:=.inr (fun q=>(HZ.out.ne (show World.ownsRow _ _ _ _ _ _ _ from HO56.out) (by decide)) q.symm)
   have no:(Value.slice po ops.length co).ownBlock=none∨(Value.slice po ops.length co).ownBlock≠some w5.heap.size:=.inr (fun q=>(HZ.out.ne (show World.ownsRow _ _ _ _ _ _ _ from HO6.out) (by decide)) q.symm)
   exact⟨_,pd,cd,po,co,rfl,Lib.hid ((((HZ.out.set 0 (.int .u8 id.author.toNat)).set 1 (.int .u16 id.seq.toNat)).set 2 (.slice pd (depsM id ops).length cd)).set 3 (.slice po ops.length co)),Lib.hid (show GOwn encPid 2 26 _ w0.heap.size (.slice pd (depsM id ops).length cd) (depsM id ops) from own_grown HO56.out (grown_trans (grown_trans (grown_trans (grown_trans (World.grownBy.refl w6 _) (grown_setCell _ _ _)) (grown_setCell _ _ _)) (grown_setCell _ _ _)) (grown_setCell _ _ _)) nd),Lib.hid (show GOwn encOp 8 58 _ w0.heap.size (.slice po ops.length co) ops from own_grown HO6.out (grown_trans (grown_trans (grown_trans (grown_trans (World.grownBy.refl w6 _) (grown_setCell _ _ _)) (grown_setCell _ _ _)) (grown_setCell _ _ _)) (grown_setCell _ _ _)) no),Lib.hid ((((HBc.out.setCell (p:=⟨w5.heap.size,0,none⟩) HBd.out.size (.int .u8 id.author.toNat)).setCell (p:=⟨w5.heap.size,1,none⟩) HBd.out.size (.int .u16 id.seq.toNat)).setCell (p:=⟨w5.heap.size,2,none⟩) HBd.out.size (.slice pd (depsM id ops).length cd)).setCell (p:=⟨w5.heap.size,3,none⟩) HBd.out.size (.slice po ops.length co))⟩
  ·
   rename_i J K hJ hK hHeld
   clear hHeld
   refine hK _ _ (Met.intro (hJ _ _ ?_))
   (repeat apply Exists.intro)
   refine⟨?_,rfl⟩
   have HZ:Hid (ArrT w6 w0.heap.size 61 [.int .u8 0,.int .u16 0,.slice none 0 0,.slice none 0 0]):=Lib.hid (((show ArrT (w0.alloc (.cells #[.int .u8 0,.int .u16 0,.slice none 0 0,.slice none 0 0] 61)).drew w0.heap.size 61 [.int .u8 0,.int .u16 0,.slice none 0 0,.slice none 0 0] from arrT_new w0 [.int .u8 0,.int .u16 0,.slice none 0 0,.slice none 0 0] 61).over HB5b.out).over HB6b.out)
   have nd:(Value.slice pd (depsM id ops).length cd).ownBlock=none∨(Value.slice pd (depsM id ops).length cd).ownBlock≠some w0.heap.size:=.inr (fun q=>(HZ.out.ne (show World.ownsRow _ _ _ _ _ _ _ from HO56.out) (by decide)) q.symm)
   have no:(Value.slice po ops.length co).ownBlock=none∨(Value.slice po ops.length co).ownBlock≠some w0.heap.size:=.inr (fun q=>(HZ.out.ne (show World.ownsRow _ _ _ _ _ _ _ from HO6.out) (by decide)) q.symm)
   exact⟨_,pd,cd,po,co,rfl,Lib.hid ((((HZ.out.set 0 (.int .u8 id.author.toNat)).set 1 (.int .u16 id.seq.toNat)).set 2 (.slice pd (depsM id ops).length cd)).set 3 (.slice po ops.length co)),Lib.hid (show GOwn encPid 2 26 _ w0.heap.size (.slice pd (depsM id ops).length cd) (depsM id ops) from own_grown HO56.out (grown_trans (grown_trans (grown_trans (grown_trans (World.grownBy.refl w6 _) (grown_setCell _ _ _)) (grown_setCell _ _ _)) (grown_setCell _ _ _)) (grown_setCell _ _ _)) nd),Lib.hid (show GOwn encOp 8 58 _ w0.heap.size (.slice po ops.length co) ops from own_grown HO6.out (grown_trans (grown_trans (grown_trans (grown_trans (World.grownBy.refl w6 _) (grown_setCell _ _ _)) (grown_setCell _ _ _)) (grown_setCell _ _ _)) (grown_setCell _ _ _)) no),Lib.hid ((((HBc.out.setCell (p:=⟨w0.heap.size,0,none⟩) (Nat.le_refl _) (.int .u8 id.author.toNat)).setCell (p:=⟨w0.heap.size,1,none⟩) (Nat.le_refl _) (.int .u16 id.seq.toNat)).setCell (p:=⟨w0.heap.size,2,none⟩) (Nat.le_refl _) (.slice pd (depsM id ops).length cd)).setCell (p:=⟨w0.heap.size,3,none⟩) (Nat.le_refl _) (.slice po ops.length co))⟩
 case rest =>
  obtain⟨g6,pd,cd,po,co,rfl,HA6,HO5,HO6,HB6⟩:=hcut
  rename World=>w6
  have HR6:=Lib.hid (HR.out.over HB6.out)
  have hs6:=HB6.out.size
  clear i0 i1 si HS
  have p0:=HA6.out.arr.cell (j:=0) rfl
  have p1:=HA6.out.arr.cell (j:=1) rfl
  have p2:=HA6.out.arr.cell (j:=2) rfl
  have p3:=HA6.out.arr.cell (j:=3) rfl
  have sp:=HA6.out.arr.lt
  go_wp2_with fail
  refine(pgood_any id _ _ (depsM id ops) ops _ HO5.out.row HO6.out.row (by omega) HZs.out).mono ?_
  rintro e w7 ⟨rfl,hb7⟩
  rw [HG.out]
  have HB7:=Lib.hid (below_over HB6.out HB6.out.size hb7)
  have HA7:=Lib.hid (HA6.out.over hb7)
  have HR7:=Lib.hid (HR6.out.over hb7)
  have HO57:=Lib.hid (HO5.out.over hb7)
  have HO67:=Lib.hid (HO6.out.over hb7)
  clear hb7 p0 p1 p2 p3 sp
  have p0:=HA7.out.arr.cell (j:=0) rfl
  have p1:=HA7.out.arr.cell (j:=1) rfl
  have p2:=HA7.out.arr.cell (j:=2) rfl
  have p3:=HA7.out.arr.cell (j:=3) rfl
  have sp:=HA7.out.arr.lt
  have r0:=HR7.out.cell (j:=0) rfl
  have r1:=HR7.out.cell (j:=1) rfl
  have r2:=HR7.out.cell (j:=2) rfl
  have r3:=HR7.out.cell (j:=3) rfl
  have sr:=HR7.out.lt
  have rf0:=HR7.out.free 0
  have rf1:=HR7.out.free 1
  have rf2:=HR7.out.free 2
  have rf3:=HR7.out.free 3
  have HF:=Lib.hid ((((HR7.out.set 0 (.int .u8 id.author.toNat)).set 1 (.int .u16 id.seq.toNat)).set 2 (.slice pd (depsM id ops).length cd)).set 3 (.slice po ops.length co))
  have hs0:=HS0.out
  have hgr:World.grownBy w7 ((((w7.setCell ⟨w.heap.size+1,0,none⟩ (.int .u8 id.author.toNat)).setCell ⟨w.heap.size+1,1,none⟩ (.int .u16 id.seq.toNat)).setCell ⟨w.heap.size+1,2,none⟩ (.slice pd (depsM id ops).length cd)).setCell ⟨w.heap.size+1,3,none⟩ (.slice po ops.length co)) (some (w.heap.size+1)):=(grown_trans (grown_trans (grown_trans (grown_trans (World.grownBy.refl w7 _) (grown_setCell _ _ _)) (grown_setCell _ _ _)) (grown_setCell _ _ _)) (grown_setCell _ _ _))
  have HO58:=Lib.hid (gown_keepM HO57.out hgr (fun j hj=>by cases hj;omega))
  have HO68:=Lib.hid (gown_keepM HO67.out hgr (fun j hj=>by cases hj;omega))
  have HB8:=Lib.hid ((below_over HB.out HB.out.size HB7.out).grown hgr (by have:=HB7.out.size;omega) (fun j hj=>by cases hj;omega))
  clear hgr hs0
  go_wp2_with fail
  exact bodyPost_ret (v:=.tuple #[.agg #[.int .u8 id.author.toNat,.int .u16 id.seq.toNat,.slice pd (depsM id ops).length cd,.slice po ops.length co],.int .i64 0]) (results_arr_slot rowPat rfl HF.out rfl rfl rfl) rfl ⟨pd,cd,po,co,rfl,HO58.out.base (by have:=HS0.out;omega),HO68.out.base (by have:=HS0.out;omega),HB8.out⟩
end Go.Proofs.YtllcipobiengiaaGreat
namespace Go.Proofs.YtllcipobiengiaaGreat
open Go Go.RowKit

def wkId:PidM:=⟨1,1⟩
def wkF:VidM:=⟨wkId,0⟩
def wkOps:List OpM:=[⟨1,noVid,noVid,⟨#[]⟩⟩,⟨3,wkF,noVid,⟨#[97]⟩⟩,⟨3,wkF,noVid,⟨#[98]⟩⟩,⟨3,wkF,noVid,⟨#[99]⟩⟩,⟨4,⟨wkId,1⟩,⟨wkId,2⟩,⟨#[]⟩⟩,⟨4,⟨wkId,2⟩,⟨wkId,3⟩,⟨#[]⟩⟩]
def wkPat:PatchM:=⟨wkId,[],wkOps⟩
def wkWant:List ByteArray:=[⟨#[97]⟩,⟨#[120]⟩,⟨#[99]⟩]
theorem wkDeps:depsM wkId wkOps=[]:=by decide +kernel
theorem wkGood:goodQ wkId (depsM wkId wkOps) wkOps=true:=by decide +kernel
theorem wkFew:fewL 12 [wkPat]=true:=by decide +kernel
theorem wkG:buildM [wkPat]=[wkPat]:=by decide +kernel
def wkVert(n:UInt8)(t:ByteArray):VertM:=⟨⟨wkId,n⟩,3,wkF,t,false⟩
def wkL:List VertM:=[wkVert 1 ⟨#[97]⟩,wkVert 2 ⟨#[98]⟩,wkVert 3 ⟨#[99]⟩]
theorem wkLines:linesM [wkPat] wkF=wkL:=by decide +kernel
theorem wkRel:relM [wkPat] wkF=[(0,1),(1,2)]:=by decide +kernel
def wkR:List (Nat × Nat):=[(0,1),(1,2)]
theorem wkUp:UpL wkR:=by
 intro s hs
 have:s=(0,1)∨s=(1,2):=by simpa [wkR] using hs
 rcases this with rfl|rfl <;> decide
theorem wkAlive:aliveX wkL wkR=[0,1,2]:=by
 unfold aliveX
 rw [up_order wkUp]
 decide +kernel
theorem wkFirm:firmX wkL wkR=[0,1,2]:=by
 unfold firmX
 rw [wkAlive]
 have h:∀ i,i<3→firmB wkR wkL.length i=true:=fun i hi=>firmB_iff.2 ⟨hi,fun j _ hne ha=>hne ((up_alike wkUp).1 ha).symm⟩
 rw [List.filter_cons_of_pos (h 0 (by decide)),List.filter_cons_of_pos (h 1 (by decide)),List.filter_cons_of_pos (h 2 (by decide)),List.filter_nil]
def wkA:ByteArray:=⟨#[97]⟩
def wkB:ByteArray:=⟨#[98]⟩
def wkC:ByteArray:=⟨#[99]⟩
def wkX:ByteArray:=⟨#[120]⟩
theorem wkBX:¬ wkB=wkX:=by decide +kernel
theorem wkCX:¬ wkC=wkX:=by decide +kernel
theorem wkBC:¬ wkB=wkC:=by decide +kernel
theorem wkPairs:pairs [wkA,wkB,wkC] [wkA,wkX,wkC]=[(0,0),(2,2)]:=by
 have h33:lcsAt [wkA,wkB,wkC] [wkA,wkX,wkC] 3 1=0:=by simp [lcsAt,lcsLen]
 have h22:lcsAt [wkA,wkB,wkC] [wkA,wkX,wkC] 2 2=1:=by simp [lcsAt,lcsLen]
 have h12:lcsAt [wkA,wkB,wkC] [wkA,wkX,wkC] 1 2=1:=by simp [lcsAt,lcsLen,wkBC]
 have h21:lcsAt [wkA,wkB,wkC] [wkA,wkX,wkC] 2 1=1:=by simp [lcsAt,lcsLen,wkCX]
 unfold pairs
 show pairsF [wkA,wkB,wkC] [wkA,wkX,wkC] (5+1) 0 0=_
 rw [pairsF_eq (x:=wkA) (y:=wkA) rfl rfl rfl,pairsF_left (x:=wkB) (y:=wkX) rfl rfl wkBX (by rw [h12,h21];exact Nat.le_refl _),pairsF_right (x:=wkC) (y:=wkX) rfl rfl wkCX (by rw [h22,h33];decide),pairsF_eq (x:=wkC) (y:=wkC) rfl rfl rfl,pairsF_end (by decide)]
theorem wkTexts:([0,1,2]:List Nat).map (textAt wkL)=[⟨#[97]⟩,⟨#[98]⟩,⟨#[99]⟩]:=by decide +kernel
def wkNew:PidM:=⟨1,2⟩
def wkOut:List OpM:=[⟨5,⟨wkId,2⟩,noVid,⟨#[]⟩⟩,⟨3,wkF,noVid,wkX⟩,⟨4,⟨wkId,1⟩,⟨wkNew,1⟩,⟨#[]⟩⟩,⟨4,⟨wkNew,1⟩,⟨wkId,3⟩,⟨#[]⟩⟩]
theorem wkEdit:editM wkL wkR (aliveX wkL wkR) (firmX wkL wkR) wkF wkNew 0 wkWant (pairs ((firmX wkL wkR).map (textAt wkL)) wkWant)=wkOut:=by
 rw [wkFirm,wkAlive,wkTexts,show wkWant=[wkA,wkX,wkC] from rfl,show([⟨#[97]⟩,⟨#[98]⟩,⟨#[99]⟩]:List ByteArray)=[wkA,wkB,wkC] from rfl,wkPairs]
 have hk:keptTo [0,1,2] [(0,0),(2,2)] 3=[0,-1,2]:=by decide +kernel
 have hs:addsTo wkL wkF wkNew 0 [0,-1,2] [wkA,wkX,wkC] (killsE wkL [0,1,2] [0,-1,2]) 3=([⟨5,⟨wkId,2⟩,noVid,⟨#[]⟩⟩,⟨3,wkF,noVid,wkX⟩],[⟨wkId,1⟩,⟨wkNew,1⟩,⟨wkId,3⟩]):=by decide +kernel
 show(addsTo wkL wkF wkNew 0 (keptTo [0,1,2] [(0,0),(2,2)] 3) [wkA,wkX,wkC] (killsE wkL [0,1,2] (keptTo [0,1,2] [(0,0),(2,2)] 3)) 3).1++(List.range 3).flatMap (edgesE wkR (keptTo [0,1,2] [(0,0),(2,2)] 3) (addsTo wkL wkF wkNew 0 (keptTo [0,1,2] [(0,0),(2,2)] 3) [wkA,wkX,wkC] (killsE wkL [0,1,2] (keptTo [0,1,2] [(0,0),(2,2)] 3)) 3).2)=wkOut
 rw [hk,hs]
 have hr:List.range 3=[0,1,2]:=rfl
 rw [hr]
 simp [edgesE,wkOut]
end Go.Proofs.YtllcipobiengiaaGreat
namespace Go.Proofs.YtllcipobiengiaaGreat
open Go Go.RowKit

theorem own_lit27{α:Type}{enc:α→List Value}{sz:Nat}(w:World)(e:TypeId)(xs:List α)(B:Nat)(hl:(xs.flatMap enc).length=xs.length*sz)(hm:xs.length≤maxLen)(hB:B≤w.heap.size):GOwn enc sz e (w.alloc (.cells (xs.flatMap enc).toArray e)) B (.slice (some ⟨w.heap.size,0,none⟩) xs.length xs.length) xs:=
 ⟨hl,.inr ⟨w.heap.size,xs.length,(xs.flatMap enc).toArray,rfl,hB,by rw [heap_alloc_new],Nat.le_refl _,hm,by simp [hl],by rw [← hl];exact List.take_length⟩⟩
theorem srowW(W:World)(b:Nat)(hb:b=W.heap.size):SRow (W.alloc (.cells #[.string ⟨#[97]⟩,.string ⟨#[120]⟩,.string ⟨#[99]⟩] 9)) (.slice (some ⟨b,0,none⟩) 3 3) wkWant:=by
 subst hb
 exact(show GOwn encS1 1 9 (W.alloc (.cells #[.string ⟨#[97]⟩,.string ⟨#[120]⟩,.string ⟨#[99]⟩] 9)) 0 (.slice (some ⟨W.heap.size,0,none⟩) 3 3) wkWant from own_lit27 W 9 wkWant 0 rfl (by decide) (Nat.zero_le _)).row
def WkMk(w:World)(e:Ending)(w':World):Prop:=∃ pd cd po co,e=.returned (.tuple #[.agg #[.int .u8 1,.int .u16 1,.slice pd 0 cd,.slice po 6 co],.int .i64 0])∧GOwn encPid 2 26 w' w.heap.size (.slice pd 0 cd) []∧GOwn encOp 8 58 w' w.heap.size (.slice po 6 co) wkOps∧Below w.heap.size w w'
theorem wkMk(v:Value)(w:World)(hv:GRow encOp 8 w v wkOps):Calls Tryz.prog 22 #[.agg #[.int .u8 1,.int .u16 1],v] w (WkMk w):=by
 have h:=pmake_any wkId v wkOps w hv (by decide) (fun o ho=>Nat.le_trans (show o.text.size≤1 from(by decide +kernel:∀ o∈wkOps,o.text.size≤1) o ho) (by unfold maxLen;omega)) wkGood
 refine h.mono ?_
 rintro e w' ⟨pd,cd,po,co,rfl,h1,h2,h3⟩
 rw [wkDeps] at h1 ⊢
 exact⟨pd,cd,po,co,rfl,h1,h2,h3⟩
theorem rowW(W:World)(b:Nat)(hb:b=W.heap.size):GRow encOp 8 (W.alloc (.cells #[.int .u8 1,.int .u8 0,.int .u16 0,.int .u8 0,.int .u8 0,.int .u16 0,.int .u8 0,.string ⟨#[]⟩,.int .u8 3,.int .u8 1,.int .u16 1,.int .u8 0,.int .u8 0,.int .u16 0,.int .u8 0,.string ⟨#[97]⟩,.int .u8 3,.int .u8 1,.int .u16 1,.int .u8 0,.int .u8 0,.int .u16 0,.int .u8 0,.string ⟨#[98]⟩,.int .u8 3,.int .u8 1,.int .u16 1,.int .u8 0,.int .u8 0,.int .u16 0,.int .u8 0,.string ⟨#[99]⟩,.int .u8 4,.int .u8 1,.int .u16 1,.int .u8 1,.int .u8 1,.int .u16 1,.int .u8 2,.string ⟨#[]⟩,.int .u8 4,.int .u8 1,.int .u16 1,.int .u8 2,.int .u8 1,.int .u16 1,.int .u8 3,.string ⟨#[]⟩] 58)) (.slice (some ⟨b,0,none⟩) 6 6) wkOps:=by
 subst hb
 exact(show GOwn encOp 8 58 (W.alloc (.cells #[.int .u8 1,.int .u8 0,.int .u16 0,.int .u8 0,.int .u8 0,.int .u16 0,.int .u8 0,.string ⟨#[]⟩,.int .u8 3,.int .u8 1,.int .u16 1,.int .u8 0,.int .u8 0,.int .u16 0,.int .u8 0,.string ⟨#[97]⟩,.int .u8 3,.int .u8 1,.int .u16 1,.int .u8 0,.int .u8 0,.int .u16 0,.int .u8 0,.string ⟨#[98]⟩,.int .u8 3,.int .u8 1,.int .u16 1,.int .u8 0,.int .u8 0,.int .u16 0,.int .u8 0,.string ⟨#[99]⟩,.int .u8 4,.int .u8 1,.int .u16 1,.int .u8 1,.int .u8 1,.int .u16 1,.int .u8 2,.string ⟨#[]⟩,.int .u8 4,.int .u8 1,.int .u16 1,.int .u8 2,.int .u8 1,.int .u16 1,.int .u8 3,.string ⟨#[]⟩] 58)) 0 (.slice (some ⟨W.heap.size,0,none⟩) 6 6) wkOps from own_lit27 W 58 wkOps 0 rfl (by decide) (Nat.zero_le _)).row
theorem balloc27{w w':World}(h:Below w.heap.size w w')(o:Obj):Below w.heap.size w (w'.alloc o):=h.alloc h.size o
set_option maxHeartbeats 16000000 in
set_option maxRecDepth 100000 in
theorem works27_any(w:World):Calls Tryz.prog 11 #[] w fun e w'=>e=.returned (.bool true)∧Below w.heap.size w w':=by
 have HA:=Lib.hid (arr_new w #[.int .u8 1,.int .u16 1] 26)
 have HB:=Lib.hid (below_new (w:=w) (.cells #[.int .u8 1,.int .u16 1] 26))
 go_enter Tryz.func11,Tryz.ntmps11
 go_upto_region 2 with(fail)
 generalize hw0:w.alloc (.cells #[.int .u8 1,.int .u16 1] 26)=w0 at *
 clear hw0
 have i0:=HA.out.cell (j:=0) rfl
 have i1:=HA.out.cell (j:=1) rfl
 have si:=HA.out.lt
 go_wp2_with fail
 refine(pvid_any ⟨1,1⟩ 0 _ (by omega)).mono ?_
 rintro e w1 ⟨rfl,hb1⟩
 have HB1:=Lib.hid (below_over HB.out HB.out.size hb1)
 have HA1:=Lib.hid (HA.out.over hb1)
 clear hb1 i0 i1 si
 go_upto_region 3 with(fail)
 have HA2:=Lib.hid (HA1.out.alloc (.cells #[.int .u8 1,.int .u16 1,.int .u8 0] 40))
 have HF2:=Lib.hid (arr_new w1 #[.int .u8 1,.int .u16 1,.int .u8 0] 40)
 have HB2:=Lib.hid (HB1.out.alloc HB1.out.size (.cells #[.int .u8 1,.int .u16 1,.int .u8 0] 40))
 generalize hw2:w1.alloc (.cells #[.int .u8 1,.int .u16 1,.int .u8 0] 40)=w2 at *
 clear hw2
 have i0:=HA2.out.cell (j:=0) rfl
 have i1:=HA2.out.cell (j:=1) rfl
 have si:=HA2.out.lt
 have j0:=HF2.out.cell (j:=0) rfl
 have j1:=HF2.out.cell (j:=1) rfl
 have j2:=HF2.out.cell (j:=2) rfl
 have sj:=HF2.out.lt
 have HZ:Hid (∀ {W:World},Below w2.heap.size w2 W→w2.heap.size≤W.heap.size):=Lib.hid fun h=>h.size
 have HS:Hid (∀ w':World,Below w2.heap.size w2 w'→(w'.cell? ⟨w.heap.size,0,none⟩=some (.int .u8 1)∧w'.cell? ⟨w.heap.size,1,none⟩=some (.int .u16 1)∧w'.cell? ⟨w1.heap.size,0,none⟩=some (.int .u8 1)∧w'.cell? ⟨w1.heap.size,1,none⟩=some (.int .u16 1)∧w'.cell? ⟨w1.heap.size,2,none⟩=some (.int .u8 0)∧Below w2.heap.size w2 w')):=Lib.hid fun w' hb=>⟨(hb.cell (p:=⟨w.heap.size,0,none⟩) si).trans i0,(hb.cell (p:=⟨w.heap.size,1,none⟩) si).trans i1,(hb.cell (p:=⟨w1.heap.size,0,none⟩) sj).trans j0,(hb.cell (p:=⟨w1.heap.size,1,none⟩) sj).trans j1,(hb.cell (p:=⟨w1.heap.size,2,none⟩) sj).trans j2,hb⟩
 have HQ:Hid (∀ {W u:World},Below w2.heap.size w2 W→Below W.heap.size W u→Below w2.heap.size w2 u):=Lib.hid fun h1 h2=>below_over h1 h1.size h2
 have HC1:Hid (∀ W,Calls Tryz.prog 21 #[.agg #[.int .u8 1,.int .u16 1],.int .i64 1] W fun e w'=>e=.returned (.agg #[.int .u8 1,.int .u16 1,.int .u8 1])∧Below W.heap.size W w'):=Lib.hid fun W=>pvid_any ⟨1,1⟩ 1 W (by omega)
 have HC2:Hid (∀ W,Calls Tryz.prog 21 #[.agg #[.int .u8 1,.int .u16 1],.int .i64 2] W fun e w'=>e=.returned (.agg #[.int .u8 1,.int .u16 1,.int .u8 2])∧Below W.heap.size W w'):=Lib.hid fun W=>pvid_any ⟨1,1⟩ 2 W (by omega)
 have HC3:Hid (∀ W,Calls Tryz.prog 21 #[.agg #[.int .u8 1,.int .u16 1],.int .i64 3] W fun e w'=>e=.returned (.agg #[.int .u8 1,.int .u16 1,.int .u8 3])∧Below W.heap.size W w'):=Lib.hid fun W=>pvid_any ⟨1,1⟩ 3 W (by omega)
 have HCM:Hid (∀ v W,GRow encOp 8 W v wkOps→Calls Tryz.prog 22 #[.agg #[.int .u8 1,.int .u16 1],v] W (WkMk W)):=Lib.hid fun v W hv=>wkMk v W hv
 go_cut [3] (fun s wx=>∃ g6 pd cd po co,s=.pointer (some ⟨g6,0,none⟩)∧Hid (ArrT wx g6 61 [.int .u8 1,.int .u16 1,.slice pd 0 cd,.slice po 6 co])∧Hid (GOwn encPid 2 26 wx w2.heap.size (.slice pd 0 cd) [])∧Hid (GOwn encOp 8 58 wx w2.heap.size (.slice po 6 co) wkOps)∧Hid (Below w2.heap.size w2 wx))
 case first =>
  go_region_held3 (fun w'=>w'.cell? ⟨w.heap.size,0,none⟩=some (.int .u8 1)∧w'.cell? ⟨w.heap.size,1,none⟩=some (.int .u16 1)∧w'.cell? ⟨w1.heap.size,0,none⟩=some (.int .u8 1)∧w'.cell? ⟨w1.heap.size,1,none⟩=some (.int .u16 1)∧w'.cell? ⟨w1.heap.size,2,none⟩=some (.int .u8 0)∧Below w2.heap.size w2 w') (first|(refine HS.out _ ?_;((repeat(first|exact Below.refl _ _|exact HBm.out|exact HBv4.out|exact HBv3.out|exact HBv2.out|exact HBv1.out|refine Below.drew ?_|refine balloc27 ?_ _|refine Below.setCell ?_ ?_ _|exact Nat.le_refl _|exact HBm.out.size|exact Nat.le_succ_of_le HBm.out.size|exact HBv4.out.size|exact Nat.le_succ_of_le HBv4.out.size|exact HBv3.out.size|exact Nat.le_succ_of_le HBv3.out.size|exact HBv2.out.size|exact Nat.le_succ_of_le HBv2.out.size|exact HBv1.out.size|exact Nat.le_succ_of_le HBv1.out.size));done)))
   (first|(go_at_call 22;refine(HCM.out _ _ (by first|exact rowW _ _ (by simp)|exact(rowW _ _ (by simp)).over (below_new _))).mono ?_;rintro e u6 ⟨pd,cd,po,co,rfl,ho5,ho6,hb6⟩;have HBm:Hid (Below w2.heap.size w2 u6):=Lib.hid (HQ.out (by with_reducible ((repeat(first|exact Below.refl _ _|exact HBv4.out|refine Below.drew ?_|refine balloc27 ?_ _|refine Below.setCell ?_ ?_ _|exact Nat.le_refl _|exact HBv4.out.size|exact Nat.le_succ_of_le HBv4.out.size));done)) hb6);have HKm:=Lib.hid hb6;obtain⟨hc6,hf6⟩:=bcell hb6;have HO5:=Lib.hid (ho5.base (HZ.out (by with_reducible ((repeat(first|exact Below.refl _ _|exact HBv4.out|refine Below.drew ?_|refine balloc27 ?_ _|refine Below.setCell ?_ ?_ _|exact Nat.le_refl _|exact HBv4.out.size|exact Nat.le_succ_of_le HBv4.out.size));done))));have HO6:=Lib.hid (ho6.base (HZ.out (by with_reducible ((repeat(first|exact Below.refl _ _|exact HBv4.out|refine Below.drew ?_|refine balloc27 ?_ _|refine Below.setCell ?_ ?_ _|exact Nat.le_refl _|exact HBv4.out.size|exact Nat.le_succ_of_le HBv4.out.size));done))));clear ho5 ho6 hb6)|(have hqq:=HBv3;clear hqq;go_at_call 21;refine(HC3.out _).mono ?_;rintro e u4 ⟨rfl,hb5⟩;have HBv4:Hid (Below w2.heap.size w2 u4):=Lib.hid (HQ.out (by with_reducible ((repeat(first|exact Below.refl _ _|exact HBv3.out|exact HBv2.out|exact HBv1.out|refine Below.drew ?_|refine balloc27 ?_ _|refine Below.setCell ?_ ?_ _|exact Nat.le_refl _|exact HBv3.out.size|exact Nat.le_succ_of_le HBv3.out.size|exact HBv2.out.size|exact Nat.le_succ_of_le HBv2.out.size|exact HBv1.out.size|exact Nat.le_succ_of_le HBv1.out.size));done)) hb5);have HKv4:=Lib.hid hb5;have hy4:=hb5.size;(try simp at hy4);(try(have hs5b4:w2.heap.size<u4.heap.size:=(by have h:=hb5.size;(try simp at h);omega)));(try(have hz14:u1.heap.size<u4.heap.size:=(by have h:=hb5.size;(try simp at h);omega)));(try(have hz24:u2.heap.size<u4.heap.size:=(by have h:=hb5.size;(try simp at h);omega)));(try(have hz34:u3.heap.size<u4.heap.size:=(by have h:=hb5.size;(try simp at h);omega)));obtain⟨hc4,hf4⟩:=bcell hb5;clear hb5)|(have hqq:=HBv2;clear hqq;go_at_call 21;refine(HC2.out _).mono ?_;rintro e u3 ⟨rfl,hb5⟩;have HBv3:Hid (Below w2.heap.size w2 u3):=Lib.hid (HQ.out (by with_reducible ((repeat(first|exact Below.refl _ _|exact HBv2.out|exact HBv1.out|refine Below.drew ?_|refine balloc27 ?_ _|refine Below.setCell ?_ ?_ _|exact Nat.le_refl _|exact HBv2.out.size|exact Nat.le_succ_of_le HBv2.out.size|exact HBv1.out.size|exact Nat.le_succ_of_le HBv1.out.size));done)) hb5);have HKv3:=Lib.hid hb5;have hy3:=hb5.size;(try simp at hy3);(try(have hs5b3:w2.heap.size<u3.heap.size:=(by have h:=hb5.size;(try simp at h);omega)));(try(have hz13:u1.heap.size<u3.heap.size:=(by have h:=hb5.size;(try simp at h);omega)));(try(have hz23:u2.heap.size<u3.heap.size:=(by have h:=hb5.size;(try simp at h);omega)));obtain⟨hc3,hf3⟩:=bcell hb5;clear hb5)|(have hqq:=HBv1;clear hqq;go_at_call 21;refine(HC2.out _).mono ?_;rintro e u2 ⟨rfl,hb5⟩;have HBv2:Hid (Below w2.heap.size w2 u2):=Lib.hid (HQ.out (by with_reducible ((repeat(first|exact Below.refl _ _|exact HBv1.out|refine Below.drew ?_|refine balloc27 ?_ _|refine Below.setCell ?_ ?_ _|exact Nat.le_refl _|exact HBv1.out.size|exact Nat.le_succ_of_le HBv1.out.size));done)) hb5);have HKv2:=Lib.hid hb5;have hy2:=hb5.size;(try simp at hy2);(try(have hs5b2:w2.heap.size<u2.heap.size:=(by have h:=hb5.size;(try simp at h);omega)));(try(have hz12:u1.heap.size<u2.heap.size:=(by have h:=hb5.size;(try simp at h);omega)));obtain⟨hc2,hf2⟩:=bcell hb5;clear hb5)|(go_at_call 21;refine(HC1.out _).mono ?_;rintro e u1 ⟨rfl,hb5⟩;have HBv1:Hid (Below w2.heap.size w2 u1):=Lib.hid (HQ.out (by with_reducible ((repeat(first|exact Below.refl _ _|refine Below.drew ?_|refine balloc27 ?_ _|refine Below.setCell ?_ ?_ _|exact Nat.le_refl _|exact HS.out.size|exact Nat.le_succ_of_le HS.out.size));done)) hb5);have HKv1:=Lib.hid hb5;have hy1:=hb5.size;(try simp at hy1);(try(have hs5b1:w2.heap.size<u1.heap.size:=(by have h:=hb5.size;(try simp at h);omega)));obtain⟨hc1,hf1⟩:=bcell hb5;clear hb5))
  ·
   rename_i J K hJ hK hHeld
   clear hHeld
   refine hK _ _ (Met.intro (hJ _ _ ?_))
   (repeat apply Exists.intro)
   refine⟨?_,rfl⟩
   exact⟨_,pd,cd,po,co,rfl,Lib.hid (arrT_new u6 [.int .u8 1,.int .u16 1,.slice pd 0 cd,.slice po 6 co] 61),Lib.hid (HO5.out.over (below_new _)),Lib.hid (HO6.out.over (below_new _)),Lib.hid (balloc27 HBm.out _)⟩
  ·
   rename_i J K hJ hK hHeld
   clear hHeld
   refine hK _ _ (Met.intro (hJ _ _ ?_))
   (repeat apply Exists.intro)
   refine⟨?_,rfl⟩
   have HZ9:Hid (ArrT u6 (u4.heap.size+1) 61 [.int .u8 0,.int .u16 0,.slice none 0 0,.slice none 0 0]):=Lib.hid ((show ArrT ((u4.alloc (.cells #[.int .u8 1,.int .u8 0,.int .u16 0,.int .u8 0,.int .u8 0,.int .u16 0,.int .u8 0,.string ⟨#[]⟩,.int .u8 3,.int .u8 1,.int .u16 1,.int .u8 0,.int .u8 0,.int .u16 0,.int .u8 0,.string ⟨#[97]⟩,.int .u8 3,.int .u8 1,.int .u16 1,.int .u8 0,.int .u8 0,.int .u16 0,.int .u8 0,.string ⟨#[98]⟩,.int .u8 3,.int .u8 1,.int .u16 1,.int .u8 0,.int .u8 0,.int .u16 0,.int .u8 0,.string ⟨#[99]⟩,.int .u8 4,.int .u8 1,.int .u16 1,.int .u8 1,.int .u8 1,.int .u16 1,.int .u8 2,.string ⟨#[]⟩,.int .u8 4,.int .u8 1,.int .u16 1,.int .u8 2,.int .u8 1,.int .u16 1,.int .u8 3,.string ⟨#[]⟩] 58)).alloc (.cells #[.int .u8 0,.int .u16 0,.slice none 0 0,.slice none 0 0] 61)) (u4.heap.size+1) 61 [.int .u8 0,.int .u16 0,.slice none 0 0,.slice none 0 0] from(by have h:=arrT_new (u4.alloc (.cells #[.int .u8 1,.int .u8 0,.int .u16 0,.int .u8 0,.int .u8 0,.int .u16 0,.int .u8 0,.string ⟨#[]⟩,.int .u8 3,.int .u8 1,.int .u16 1,.int .u8 0,.int .u8 0,.int .u16 0,.int .u8 0,.string ⟨#[97]⟩,.int .u8 3,.int .u8 1,.int .u16 1,.int .u8 0,.int .u8 0,.int .u16 0,.int .u8 0,.string ⟨#[98]⟩,.int .u8 3,.int .u8 1,.int .u16 1,.int .u8 0,.int .u8 0,.int .u16 0,.int .u8 0,.string ⟨#[99]⟩,.int .u8 4,.int .u8 1,.int .u16 1,.int .u8 1,.int .u8 1,.int .u16 1,.int .u8 2,.string ⟨#[]⟩,.int .u8 4,.int .u8 1,.int .u16 1,.int .u8 2,.int .u8 1,.int .u16 1,.int .u8 3,.string ⟨#[]⟩] 58)) [.int .u8 0,.int .u16 0,.slice none 0 0,.slice none 0 0] 61;simpa using h)).over HKm.out)
   have nd:(Value.slice pd 0 cd).ownBlock=none∨(Value.slice pd 0 cd).ownBlock≠some (u4.heap.size+1):=.inr (fun q=>(HZ9.out.ne (show World.ownsRow _ _ _ _ _ _ _ from HO5.out) (by decide)) q.symm)
   have no:(Value.slice po 6 co).ownBlock=none∨(Value.slice po 6 co).ownBlock≠some (u4.heap.size+1):=.inr (fun q=>(HZ9.out.ne (show World.ownsRow _ _ _ _ _ _ _ from HO6.out) (by decide)) q.symm)
   exact⟨_,pd,cd,po,co,rfl,Lib.hid ((((HZ9.out.set 0 (.int .u8 1)).set 1 (.int .u16 1)).set 2 (.slice pd 0 cd)).set 3 (.slice po 6 co)),Lib.hid (show GOwn encPid 2 26 _ w2.heap.size (.slice pd 0 cd) [] from own_grown HO5.out (grown_trans (grown_trans (grown_trans (grown_trans (World.grownBy.refl u6 _) (grown_setCell _ _ _)) (grown_setCell _ _ _)) (grown_setCell _ _ _)) (grown_setCell _ _ _)) nd),Lib.hid (show GOwn encOp 8 58 _ w2.heap.size (.slice po 6 co) wkOps from own_grown HO6.out (grown_trans (grown_trans (grown_trans (grown_trans (World.grownBy.refl u6 _) (grown_setCell _ _ _)) (grown_setCell _ _ _)) (grown_setCell _ _ _)) (grown_setCell _ _ _)) no),Lib.hid ((((HBm.out.setCell (p:=⟨(u4.heap.size+1),0,none⟩) (Nat.le_succ_of_le HBv4.out.size) (.int .u8 1)).setCell (p:=⟨(u4.heap.size+1),1,none⟩) (Nat.le_succ_of_le HBv4.out.size) (.int .u16 1)).setCell (p:=⟨(u4.heap.size+1),2,none⟩) (Nat.le_succ_of_le HBv4.out.size) (.slice pd 0 cd)).setCell (p:=⟨(u4.heap.size+1),3,none⟩) (Nat.le_succ_of_le HBv4.out.size) (.slice po 6 co))⟩
  ·
   rename_i J K hJ hK hHeld
   clear hHeld
   refine hK _ _ (Met.intro (hJ _ _ ?_))
   (repeat apply Exists.intro)
   refine⟨?_,rfl⟩
   have HZ9:Hid (ArrT u6 u4.heap.size 61 [.int .u8 0,.int .u16 0,.slice none 0 0,.slice none 0 0]):=Lib.hid (((arrT_new u4 [.int .u8 0,.int .u16 0,.slice none 0 0,.slice none 0 0] 61).over (below_new _)).over HKm.out)
   have nd:(Value.slice pd 0 cd).ownBlock=none∨(Value.slice pd 0 cd).ownBlock≠some u4.heap.size:=.inr (fun q=>(HZ9.out.ne (show World.ownsRow _ _ _ _ _ _ _ from HO5.out) (by decide)) q.symm)
   have no:(Value.slice po 6 co).ownBlock=none∨(Value.slice po 6 co).ownBlock≠some u4.heap.size:=.inr (fun q=>(HZ9.out.ne (show World.ownsRow _ _ _ _ _ _ _ from HO6.out) (by decide)) q.symm)
   exact⟨_,pd,cd,po,co,rfl,Lib.hid ((((HZ9.out.set 0 (.int .u8 1)).set 1 (.int .u16 1)).set 2 (.slice pd 0 cd)).set 3 (.slice po 6 co)),Lib.hid (show GOwn encPid 2 26 _ w2.heap.size (.slice pd 0 cd) [] from own_grown HO5.out (grown_trans (grown_trans (grown_trans (grown_trans (World.grownBy.refl u6 _) (grown_setCell _ _ _)) (grown_setCell _ _ _)) (grown_setCell _ _ _)) (grown_setCell _ _ _)) nd),Lib.hid (show GOwn encOp 8 58 _ w2.heap.size (.slice po 6 co) wkOps from own_grown HO6.out (grown_trans (grown_trans (grown_trans (grown_trans (World.grownBy.refl u6 _) (grown_setCell _ _ _)) (grown_setCell _ _ _)) (grown_setCell _ _ _)) (grown_setCell _ _ _)) no),Lib.hid ((((HBm.out.setCell (p:=⟨u4.heap.size,0,none⟩) HBv4.out.size (.int .u8 1)).setCell (p:=⟨u4.heap.size,1,none⟩) HBv4.out.size (.int .u16 1)).setCell (p:=⟨u4.heap.size,2,none⟩) HBv4.out.size (.slice pd 0 cd)).setCell (p:=⟨u4.heap.size,3,none⟩) HBv4.out.size (.slice po 6 co))⟩
  ·
   rename_i J K hJ hK hHeld
   clear hHeld
   refine hK _ _ (Met.intro (hJ _ _ ?_))
   (repeat apply Exists.intro)
   refine⟨?_,rfl⟩
   have HZ9:Hid (ArrT u6 u3.heap.size 61 [.int .u8 0,.int .u16 0,.slice none 0 0,.slice none 0 0]):=Lib.hid ((((arrT_new u3 [.int .u8 0,.int .u16 0,.slice none 0 0,.slice none 0 0] 61).over HKv4.out).over (below_new _)).over HKm.out)
   have nd:(Value.slice pd 0 cd).ownBlock=none∨(Value.slice pd 0 cd).ownBlock≠some u3.heap.size:=.inr (fun q=>(HZ9.out.ne (show World.ownsRow _ _ _ _ _ _ _ from HO5.out) (by decide)) q.symm)
   have no:(Value.slice po 6 co).ownBlock=none∨(Value.slice po 6 co).ownBlock≠some u3.heap.size:=.inr (fun q=>(HZ9.out.ne (show World.ownsRow _ _ _ _ _ _ _ from HO6.out) (by decide)) q.symm)
   exact⟨_,pd,cd,po,co,rfl,Lib.hid ((((HZ9.out.set 0 (.int .u8 1)).set 1 (.int .u16 1)).set 2 (.slice pd 0 cd)).set 3 (.slice po 6 co)),Lib.hid (show GOwn encPid 2 26 _ w2.heap.size (.slice pd 0 cd) [] from own_grown HO5.out (grown_trans (grown_trans (grown_trans (grown_trans (World.grownBy.refl u6 _) (grown_setCell _ _ _)) (grown_setCell _ _ _)) (grown_setCell _ _ _)) (grown_setCell _ _ _)) nd),Lib.hid (show GOwn encOp 8 58 _ w2.heap.size (.slice po 6 co) wkOps from own_grown HO6.out (grown_trans (grown_trans (grown_trans (grown_trans (World.grownBy.refl u6 _) (grown_setCell _ _ _)) (grown_setCell _ _ _)) (grown_setCell _ _ _)) (grown_setCell _ _ _)) no),Lib.hid ((((HBm.out.setCell (p:=⟨u3.heap.size,0,none⟩) HBv3.out.size (.int .u8 1)).setCell (p:=⟨u3.heap.size,1,none⟩) HBv3.out.size (.int .u16 1)).setCell (p:=⟨u3.heap.size,2,none⟩) HBv3.out.size (.slice pd 0 cd)).setCell (p:=⟨u3.heap.size,3,none⟩) HBv3.out.size (.slice po 6 co))⟩
  ·
   rename_i J K hJ hK hHeld
   clear hHeld
   refine hK _ _ (Met.intro (hJ _ _ ?_))
   (repeat apply Exists.intro)
   refine⟨?_,rfl⟩
   have HZ9:Hid (ArrT u6 u2.heap.size 61 [.int .u8 0,.int .u16 0,.slice none 0 0,.slice none 0 0]):=Lib.hid (((((arrT_new u2 [.int .u8 0,.int .u16 0,.slice none 0 0,.slice none 0 0] 61).over HKv3.out).over HKv4.out).over (below_new _)).over HKm.out)
   have nd:(Value.slice pd 0 cd).ownBlock=none∨(Value.slice pd 0 cd).ownBlock≠some u2.heap.size:=.inr (fun q=>(HZ9.out.ne (show World.ownsRow _ _ _ _ _ _ _ from HO5.out) (by decide)) q.symm)
   have no:(Value.slice po 6 co).ownBlock=none∨(Value.slice po 6 co).ownBlock≠some u2.heap.size:=.inr (fun q=>(HZ9.out.ne (show World.ownsRow _ _ _ _ _ _ _ from HO6.out) (by decide)) q.symm)
   exact⟨_,pd,cd,po,co,rfl,Lib.hid ((((HZ9.out.set 0 (.int .u8 1)).set 1 (.int .u16 1)).set 2 (.slice pd 0 cd)).set 3 (.slice po 6 co)),Lib.hid (show GOwn encPid 2 26 _ w2.heap.size (.slice pd 0 cd) [] from own_grown HO5.out (grown_trans (grown_trans (grown_trans (grown_trans (World.grownBy.refl u6 _) (grown_setCell _ _ _)) (grown_setCell _ _ _)) (grown_setCell _ _ _)) (grown_setCell _ _ _)) nd),Lib.hid (show GOwn encOp 8 58 _ w2.heap.size (.slice po 6 co) wkOps from own_grown HO6.out (grown_trans (grown_trans (grown_trans (grown_trans (World.grownBy.refl u6 _) (grown_setCell _ _ _)) (grown_setCell _ _ _)) (grown_setCell _ _ _)) (grown_setCell _ _ _)) no),Lib.hid ((((HBm.out.setCell (p:=⟨u2.heap.size,0,none⟩) HBv2.out.size (.int .u8 1)).setCell (p:=⟨u2.heap.size,1,none⟩) HBv2.out.size (.int .u16 1)).setCell (p:=⟨u2.heap.size,2,none⟩) HBv2.out.size (.slice pd 0 cd)).setCell (p:=⟨u2.heap.size,3,none⟩) HBv2.out.size (.slice po 6 co))⟩
  ·
   rename_i J K hJ hK hHeld
   clear hHeld
   refine hK _ _ (Met.intro (hJ _ _ ?_))
   (repeat apply Exists.intro)
   refine⟨?_,rfl⟩
   have HZ9:Hid (ArrT u6 u1.heap.size 61 [.int .u8 0,.int .u16 0,.slice none 0 0,.slice none 0 0]):=Lib.hid ((((((arrT_new u1 [.int .u8 0,.int .u16 0,.slice none 0 0,.slice none 0 0] 61).over HKv2.out).over HKv3.out).over HKv4.out).over (below_new _)).over HKm.out)
   have nd:(Value.slice pd 0 cd).ownBlock=none∨(Value.slice pd 0 cd).ownBlock≠some u1.heap.size:=.inr (fun q=>(HZ9.out.ne (show World.ownsRow _ _ _ _ _ _ _ from HO5.out) (by decide)) q.symm)
   have no:(Value.slice po 6 co).ownBlock=none∨(Value.slice po 6 co).ownBlock≠some u1.heap.size:=.inr (fun q=>(HZ9.out.ne (show World.ownsRow _ _ _ _ _ _ _ from HO6.out) (by decide)) q.symm)
   exact⟨_,pd,cd,po,co,rfl,Lib.hid ((((HZ9.out.set 0 (.int .u8 1)).set 1 (.int .u16 1)).set 2 (.slice pd 0 cd)).set 3 (.slice po 6 co)),Lib.hid (show GOwn encPid 2 26 _ w2.heap.size (.slice pd 0 cd) [] from own_grown HO5.out (grown_trans (grown_trans (grown_trans (grown_trans (World.grownBy.refl u6 _) (grown_setCell _ _ _)) (grown_setCell _ _ _)) (grown_setCell _ _ _)) (grown_setCell _ _ _)) nd),Lib.hid (show GOwn encOp 8 58 _ w2.heap.size (.slice po 6 co) wkOps from own_grown HO6.out (grown_trans (grown_trans (grown_trans (grown_trans (World.grownBy.refl u6 _) (grown_setCell _ _ _)) (grown_setCell _ _ _)) (grown_setCell _ _ _)) (grown_setCell _ _ _)) no),Lib.hid ((((HBm.out.setCell (p:=⟨u1.heap.size,0,none⟩) HBv1.out.size (.int .u8 1)).setCell (p:=⟨u1.heap.size,1,none⟩) HBv1.out.size (.int .u16 1)).setCell (p:=⟨u1.heap.size,2,none⟩) HBv1.out.size (.slice pd 0 cd)).setCell (p:=⟨u1.heap.size,3,none⟩) HBv1.out.size (.slice po 6 co))⟩
  ·
   rename_i J K hJ hK hHeld
   clear hHeld
   refine hK _ _ (Met.intro (hJ _ _ ?_))
   (repeat apply Exists.intro)
   refine⟨?_,rfl⟩
   have HZ9:Hid (ArrT u6 w2.heap.size 61 [.int .u8 0,.int .u16 0,.slice none 0 0,.slice none 0 0]):=Lib.hid (((((((show ArrT (w2.alloc (.cells #[.int .u8 0,.int .u16 0,.slice none 0 0,.slice none 0 0] 61)).drew w2.heap.size 61 [.int .u8 0,.int .u16 0,.slice none 0 0,.slice none 0 0] from arrT_new w2 [.int .u8 0,.int .u16 0,.slice none 0 0,.slice none 0 0] 61).over HKv1.out).over HKv2.out).over HKv3.out).over HKv4.out).over (below_new _)).over HKm.out)
   have nd:(Value.slice pd 0 cd).ownBlock=none∨(Value.slice pd 0 cd).ownBlock≠some w2.heap.size:=.inr (fun q=>(HZ9.out.ne (show World.ownsRow _ _ _ _ _ _ _ from HO5.out) (by decide)) q.symm)
   have no:(Value.slice po 6 co).ownBlock=none∨(Value.slice po 6 co).ownBlock≠some w2.heap.size:=.inr (fun q=>(HZ9.out.ne (show World.ownsRow _ _ _ _ _ _ _ from HO6.out) (by decide)) q.symm)
   exact⟨_,pd,cd,po,co,rfl,Lib.hid ((((HZ9.out.set 0 (.int .u8 1)).set 1 (.int .u16 1)).set 2 (.slice pd 0 cd)).set 3 (.slice po 6 co)),Lib.hid (show GOwn encPid 2 26 _ w2.heap.size (.slice pd 0 cd) [] from own_grown HO5.out (grown_trans (grown_trans (grown_trans (grown_trans (World.grownBy.refl u6 _) (grown_setCell _ _ _)) (grown_setCell _ _ _)) (grown_setCell _ _ _)) (grown_setCell _ _ _)) nd),Lib.hid (show GOwn encOp 8 58 _ w2.heap.size (.slice po 6 co) wkOps from own_grown HO6.out (grown_trans (grown_trans (grown_trans (grown_trans (World.grownBy.refl u6 _) (grown_setCell _ _ _)) (grown_setCell _ _ _)) (grown_setCell _ _ _)) (grown_setCell _ _ _)) no),Lib.hid ((((HBm.out.setCell (p:=⟨w2.heap.size,0,none⟩) (Nat.le_refl _) (.int .u8 1)).setCell (p:=⟨w2.heap.size,1,none⟩) (Nat.le_refl _) (.int .u16 1)).setCell (p:=⟨w2.heap.size,2,none⟩) (Nat.le_refl _) (.slice pd 0 cd)).setCell (p:=⟨w2.heap.size,3,none⟩) (Nat.le_refl _) (.slice po 6 co))⟩
 case rest =>
  obtain⟨g3,pd,cd,po,co,rfl,HA3,HD3,HO3,HB3⟩:=hcut
  rename World=>w3
  have HA3:=Lib.hid HA3.out.arr
  have HI3:=Lib.hid (HA2.out.over HB3.out)
  have HF3:=Lib.hid (HF2.out.over HB3.out)
  have HB4:=Lib.hid (below_over HB2.out HB2.out.size HB3.out)
  clear i0 i1 si j0 j1 j2 sj HS HZ HQ HC1 HC2 HC3 HCM
  have p0:=HA3.out.cell (j:=0) rfl
  have p1:=HA3.out.cell (j:=1) rfl
  have p2:=HA3.out.cell (j:=2) rfl
  have p3:=HA3.out.cell (j:=3) rfl
  have sp:=HA3.out.lt
  have q0:=HF3.out.cell (j:=0) rfl
  have q1:=HF3.out.cell (j:=1) rfl
  have q2:=HF3.out.cell (j:=2) rfl
  have sq:=HF3.out.lt
  have HZ:Hid (∀ {W:World},Below w3.heap.size w3 W→w3.heap.size≤W.heap.size):=Lib.hid fun h=>h.size
  have HS:Hid (∀ w':World,Below w3.heap.size w3 w'→(w'.cell? ⟨g3,0,none⟩=some (.int .u8 1)∧w'.cell? ⟨g3,1,none⟩=some (.int .u16 1)∧w'.cell? ⟨g3,2,none⟩=some (.slice pd 0 cd)∧w'.cell? ⟨g3,3,none⟩=some (.slice po 6 co)∧w'.cell? ⟨w1.heap.size,0,none⟩=some (.int .u8 1)∧w'.cell? ⟨w1.heap.size,1,none⟩=some (.int .u16 1)∧w'.cell? ⟨w1.heap.size,2,none⟩=some (.int .u8 0)∧Below w3.heap.size w3 w')):=Lib.hid fun w' hb=>⟨(hb.cell (p:=⟨g3,0,none⟩) sp).trans p0,(hb.cell (p:=⟨g3,1,none⟩) sp).trans p1,(hb.cell (p:=⟨g3,2,none⟩) sp).trans p2,(hb.cell (p:=⟨g3,3,none⟩) sp).trans p3,(hb.cell (p:=⟨w1.heap.size,0,none⟩) sq).trans q0,(hb.cell (p:=⟨w1.heap.size,1,none⟩) sq).trans q1,(hb.cell (p:=⟨w1.heap.size,2,none⟩) sq).trans q2,hb⟩
  have HQ:Hid (∀ {W u:World},Below w3.heap.size w3 W→Below W.heap.size W u→Below w3.heap.size w3 u):=Lib.hid fun h1 h2=>below_over h1 h1.size h2
  have HPW:Hid (∀(W:World) (b:Nat),Below w3.heap.size w3 W→b=W.heap.size→Pats (W.alloc (.cells #[.int .u8 1,.int .u16 1,.slice pd 0 cd,.slice po 6 co] 61)) (.slice (some ⟨b,0,none⟩) 1 1) [(⟨wkPat,.slice pd 0 cd,.slice po 6 co⟩:LaidP)]):=Lib.hid fun W b hb hbe=>by
   subst hbe
   refine⟨(show GOwn encPat 4 61 (W.alloc (.cells #[.int .u8 1,.int .u16 1,.slice pd 0 cd,.slice po 6 co] 61)) 0 (.slice (some ⟨W.heap.size,0,none⟩) 1 1) [(⟨wkPat,.slice pd 0 cd,.slice po 6 co⟩:LaidP)] from own_lit27 W 61 [(⟨wkPat,.slice pd 0 cd,.slice po 6 co⟩:LaidP)] 0 rfl (by show 1≤maxLen;unfold maxLen;omega) (Nat.zero_le _)).row,fun x hx => ?_⟩
   obtain rfl:x=⟨wkPat,.slice pd 0 cd,.slice po 6 co⟩:=by simpa using hx
   exact⟨((HD3.out.over hb).over (below_new _)).row,((HO3.out.over hb).over (below_new _)).row⟩
  have HCB:Hid (∀ v W,Pats W v [(⟨wkPat,.slice pd 0 cd,.slice po 6 co⟩:LaidP)]→Calls Tryz.prog 12 #[v] W fun e w'=>∃ b,e=.returned (.pointer (some ⟨b,0,none⟩))∧GrIs w' b [wkPat]∧Below W.heap.size W w'):=Lib.hid fun v W h=>by
   refine(build_any v _ 12 (by omega) W h wkFew).mono ?_
   rintro e w' ⟨b,bv,be,n,hn,rfl,hgr⟩
   obtain⟨_,_,_,hG,hb⟩:=hgr
   rw [show([(⟨wkPat,.slice pd 0 cd,.slice po 6 co⟩:LaidP)]).map (·.p)=[wkPat] from rfl,wkG] at hG
   exact⟨b,rfl,⟨bv,be,n,hG⟩,hb⟩
  have HCO:Hid (∀(b:Nat) (W:World),GrIs W b [wkPat]→Calls Tryz.prog 17 #[.pointer (some ⟨b,0,none⟩),.agg #[.int .u8 1,.int .u16 1,.int .u8 0]] W (LofRes W wkL wkR)):=Lib.hid fun b W h=>by
   have h9:=lof_any b [wkPat] wkF W h (by have:=wf_build [wkPat];rwa [wkG] at this) (by decide +kernel) (by decide +kernel)
   rw [wkLines,wkRel] at h9
   exact h9
  have HCE:Hid (∀(s:Nat) (v:Value) (W:World),ShAt W s wkL wkR→SRow W v wkWant→Calls Tryz.prog 16 #[.pointer (some ⟨s,0,none⟩),.agg #[.int .u8 1,.int .u16 1,.int .u8 0],.agg #[.int .u8 1,.int .u16 2],.int .i64 0,v] W (OwnRes encOp 8 58 W wkOut)):=Lib.hid fun s v W h1 h2=>by
   have h9:=eops_any s v wkL wkR wkF wkNew 0 wkWant W h1 (by decide) h2 (by decide) (by omega)
   rw [wkEdit] at h9
   exact h9
  go_upto_region 4 with(fail)
  go_cut [5] (fun s wx=>∃ p9 c9,s=.slice p9 4 c9∧Hid (GOwn encOp 8 58 wx w3.heap.size (.slice p9 4 c9) wkOut)∧Hid (Below w3.heap.size w3 wx))
  case first =>
   go_region_held3 (fun w'=>w'.cell? ⟨g3,0,none⟩=some (.int .u8 1)∧w'.cell? ⟨g3,1,none⟩=some (.int .u16 1)∧w'.cell? ⟨g3,2,none⟩=some (.slice pd 0 cd)∧w'.cell? ⟨g3,3,none⟩=some (.slice po 6 co)∧w'.cell? ⟨w1.heap.size,0,none⟩=some (.int .u8 1)∧w'.cell? ⟨w1.heap.size,1,none⟩=some (.int .u16 1)∧w'.cell? ⟨w1.heap.size,2,none⟩=some (.int .u8 0)∧Below w3.heap.size w3 w') (first|(refine HS.out _ ?_;((repeat(first|exact Below.refl _ _|exact HBvC.out|exact HBvB.out|exact HBvA.out|refine Below.drew ?_|refine balloc27 ?_ _|exact Nat.le_refl _));done)))
    (first|(go_at_call 12;refine(HCB.out _ _ (by first|with_reducible exact(HPW.out _ _ (by((repeat(first|exact Below.refl _ _|refine Below.drew ?_|refine balloc27 ?_ _|exact Nat.le_refl _));done)) (by simp)).over (Below.drew (Below.refl _ _))|with_reducible exact((HPW.out _ _ (by((repeat(first|exact Below.refl _ _|refine Below.drew ?_|refine balloc27 ?_ _|exact Nat.le_refl _));done)) (by simp)).over (below_new _)).over (Below.drew (Below.refl _ _)))).mono ?_;rintro e uA ⟨gb,rfl,hg,hb5⟩;have HBvA:Hid (Below w3.heap.size w3 uA):=Lib.hid (HQ.out (by with_reducible ((repeat(first|exact Below.refl _ _|refine Below.drew ?_|refine balloc27 ?_ _|exact Nat.le_refl _));done)) hb5);have HGA:=Lib.hid hg;have HKA:=Lib.hid hb5;clear hb5 hg)|(have hqq:=HGA;clear hqq;go_at_call 17;refine(HCO.out _ _ (by first|with_reducible exact HGA.out|with_reducible exact HGA.out.over (below_new _))).mono ?_;rintro e uB ⟨sB,rfl,hsz,hsh,hb5⟩;have HBvB:Hid (Below w3.heap.size w3 uB):=Lib.hid (HQ.out (by with_reducible ((repeat(first|exact Below.refl _ _|exact HBvA.out|refine Below.drew ?_|refine balloc27 ?_ _|exact Nat.le_refl _));done)) hb5);have HSB:=Lib.hid hsh;have HKB:=Lib.hid hb5;clear hb5 hsh hsz)|(have hqq:=HSB;clear hqq;go_at_call 16;refine(HCE.out _ _ _ (by first|with_reducible exact HSB.out|with_reducible exact HSB.out.over (below_new _)) (by first|with_reducible exact srowW _ _ (by simp)|with_reducible exact(srowW _ _ (by simp)).over HKB.out|with_reducible exact(((srowW _ _ (by simp)).over (Below.drew (Below.refl _ _))).over HKA.out).over HKB.out|with_reducible exact((((srowW _ _ (by simp)).over (below_new _)).over (Below.drew (Below.refl _ _))).over HKA.out).over HKB.out)).mono ?_;rintro e uC ⟨vC,rfl,hoC,hb5⟩;have HBvC:Hid (Below w3.heap.size w3 uC):=Lib.hid (HQ.out (by with_reducible ((repeat(first|exact Below.refl _ _|exact HBvB.out|refine Below.drew ?_|refine balloc27 ?_ _|exact Nat.le_refl _));done)) hb5);have HOC:=Lib.hid (hoC.base (HZ.out (by with_reducible ((repeat(first|exact Below.refl _ _|exact HBvB.out|refine Below.drew ?_|refine balloc27 ?_ _|exact Nat.le_refl _));done))));clear hb5 hoC;(obtain⟨p9,c9,e9⟩:=oown_form HOC.out);subst e9))
   all_goals (rename_i J K hJ hK hHeld;clear hHeld;refine hK _ _ (Met.intro (hJ _ _ ?_));(repeat apply Exists.intro);refine⟨?_,rfl⟩;exact⟨p9,c9,rfl,HOC,HBvC⟩)
  case rest =>
   obtain⟨p9,c9,rfl,HO9,HB9⟩:=hcut
   rename World=>w4
   have HI4:=Lib.hid (HI3.out.over HB9.out)
   have HB5:=Lib.hid (below_over HB4.out HB4.out.size HB9.out)
   obtain⟨gO,cO,eO,hAO⟩:=own_at (show World.ownsRow _ _ _ _ _ _ _ from HO9.out) (by simp [wkOut])
   obtain⟨rfl,hxx,rfl⟩:=Value.slice.inj eO
   clear hxx
   have hnc:=hAO.nc
   have hcm:=hAO.cm
   unfold maxLen at hcm
   have sO:=hAO.lt
   have hnc4:4≤c9:=hnc
   have o0:w4.cell? ⟨gO,0,none⟩=some (.int .u8 5):=hAO.cell (j:=0) rfl
   have o1:w4.cell? ⟨gO,1,none⟩=some (.int .u8 1):=hAO.cell (j:=1) rfl
   have o2:w4.cell? ⟨gO,2,none⟩=some (.int .u16 1):=hAO.cell (j:=2) rfl
   have o3:w4.cell? ⟨gO,3,none⟩=some (.int .u8 2):=hAO.cell (j:=3) rfl
   have o15:w4.cell? ⟨gO,15,none⟩=some (.string ⟨#[120]⟩):=hAO.cell (j:=15) rfl
   have o24:w4.cell? ⟨gO,24,none⟩=some (.int .u8 4):=hAO.cell (j:=24) rfl
   clear p0 p1 p2 p3 sp q0 q1 q2 sq HS hAO eO
   have i0:=HI4.out.cell (j:=0) rfl
   have i1:=HI4.out.cell (j:=1) rfl
   have si:=HI4.out.lt
   have HC2:Hid (∀ W,Calls Tryz.prog 21 #[.agg #[.int .u8 1,.int .u16 1],.int .i64 2] W fun e w'=>e=.returned (.agg #[.int .u8 1,.int .u16 1,.int .u8 2])∧Below W.heap.size W w'):=Lib.hid fun W=>pvid_any ⟨1,1⟩ 2 W (by omega)
   have e1:∀ W,(binOp .eql 40 (.agg #[.int .u8 1,.int .u16 1,.int .u8 2]) (.agg #[.int .u8 1,.int .u16 1,.int .u8 2])).run Tryz.prog W=.ok (.bool true) W:=fun W=>eql_vid ⟨⟨1,1⟩,2⟩ ⟨⟨1,1⟩,2⟩ true rfl W
   have e2:=fun(p q:Operand) W=>guard_vid .eql p q #[.int .u8 1,.int .u16 1,.int .u8 2] #[.int .u8 1,.int .u16 1,.int .u8 2] W
   go_upto_region 5 with(fail)
   have hcur:Below w4.heap.size w4 w4.drew:=(Below.refl _ _).drew
   refine wp_region_lex (C:=IsOver w4) 34 [] (by kernel_rfl) (by kernel_rfl) (isOver_of hcur) ?_
   simp only [List.take_succ_cons,List.take_zero,List.drop_succ_cons,List.drop_zero]
   repeat(first|(refine lex_skip rfl rfl ?_;simp only [Act.put,List.setIfInBounds_toArray,List.set_cons_succ,List.set_cons_zero])|(refine lex_one rfl ?_;go_big_quiet_step (fail);refine wpQuiet_nil ?_)|(refine lex_loud rfl ?_;go_wp2_with (first|(go_at_call 21;(with_reducible refine(HC2.out _).mono ?_);rintro e wF ⟨rfl,hb⟩;replace hcur:=below_over hcur hcur.size hb;clear hb));refine⟨isOver_of hcur,?_⟩))
   refine lex_end ?_
   go_wp2_with fail
   go_ret
   exact⟨rfl,below_over HB5.out HB5.out.size hcur⟩
end Go.Proofs.YtllcipobiengiaaGreat
