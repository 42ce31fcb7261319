/- What is proved: PlanSays, for every input; of the listed tables the walk needs the powers of ten. -/
import Derived.Test.YtjccmcgglfncdaaGreatDoorPLinB
import Derived.Test.YtjccmcgglfncdaaGreatDoorPRefP
set_option linter.unusedVariables false
set_option linter.unusedSimpArgs false
set_option maxRecDepth 100000
set_option maxHeartbeats 40000000
namespace Go.Proofs.YtjccmcgglfncdaaGreatDoor
open Go Go.RowKit
section
variable{R:List (Nat × Nat)}{xs:List Nat}{l:List VertM}{i j n s:Nat}{w:World}
structure ShLook (w:World) (s:Nat) (l:List VertM) (R:List (Nat × Nat)) (lp:Option Addr) (lc r:Nat) (op:Option Addr) (oc:Nat):Prop where
 arr:Arr w s [.slice lp l.length lc,.pointer (some ⟨r,0,none⟩),.slice op l.length oc]
 row:GRow encVert 9 w (.slice lp l.length lc) l
 rel:RelAt w r l.length R
 ord:GRow encI 1 w (.slice op l.length oc) (orderM R l.length)
theorem ShAt.look(h:ShAt w s l R):∃ lp lc r op oc,ShLook w s l R lp lc r op oc:=by obtain⟨lp,lc,r,op,oc,h1,h2,h3,h4⟩:=h;exact⟨lp,lc,r,op,oc,h1,h2,h3,h4⟩
attribute [local irreducible] orderM
def ShRow(w:World)(s:Nat)(l:List VertM):Prop:=∃ lp lc v1 v2,Arr w s [.slice lp l.length lc,v1,v2]∧GRow encVert 9 w (.slice lp l.length lc) l
theorem ShRow.over{w':World}(h:ShRow w s l)(hb:Be w w'):ShRow w' s l:=by obtain⟨lp,lc,v1,v2,h1,h2⟩:=h;exact⟨lp,lc,v1,v2,h1.over hb,h2.over hb⟩
theorem ShAt.lines(h:ShAt w s l R):ShRow w s l:=by obtain⟨lp,lc,r,op,oc,h1,h2,_⟩:=h;exact⟨lp,lc,_,_,h1,h2⟩
theorem slenR_any(s:Nat)(l:List VertM)(w:World)(h:ShRow w s l):Calls Tryz.prog 222 #[.pointer (some ⟨s,0,none⟩)] w fun e w'=>e=.returned (.int .i64 l.length)∧w'=w:=by obtain⟨lp,lc,v1,v2,hL,_⟩:=h;obtain⟨s0,ss⟩:=hL.c1;clear hL;go_enter Tryz.func222,Tryz.ntmps222;go_wp2;go_ret;exact⟨rfl,rfl⟩
theorem slen_any(s:Nat)(l:List VertM)(R:List (Nat × Nat))(w:World)(h:ShAt w s l R):Calls Tryz.prog 222 #[.pointer (some ⟨s,0,none⟩)] w fun e w'=>e=.returned (.int .i64 l.length)∧w'=w:=slenR_any s l w h.lines
theorem srel_any(s:Nat)(l:List VertM)(R:List (Nat × Nat))(w:World)(h:ShAt w s l R):Calls Tryz.prog 117 #[.pointer (some ⟨s,0,none⟩)] w fun e w'=>(∃ r,e=.returned (.pointer (some ⟨r,0,none⟩))∧RelAt w r l.length R)∧w'=w:=by obtain⟨lp,lc,r,op,oc,hL⟩:=h.look;have s1:=hL.arr.k 1 rfl;have ss:=hL.arr.lt;have HR:=Lh hL.rel;clear h hL;go_enter Tryz.func117,Tryz.ntmps117;go_wp2;go_ret;exact⟨⟨r,rfl,HR.o⟩,rfl⟩
def SvRes(w:World)(x:VertM)(e:Ending)(w':World):Prop:=e=.returned (.tuple #[vertV x,.bool true])∧Be w w'
theorem svres_mk{w':World}{x:VertM}(h:Be w w'):SvRes w x (.returned (.tuple #[vertV x,.bool true])) w':=⟨rfl,h⟩
theorem svertR_any(s i:Nat)(x:VertM)(l:List VertM)(w:World)(h:ShRow w s l)(hx:l[i]? = some x):Calls Tryz.prog 149 #[.pointer (some ⟨s,0,none⟩),.int .i64 i] w (SvRes w x):=by
 have hi:=(List.getElem?_eq_some_iff.1 hx).1;have HH:=Lh (h.over (bnew (w:=w) (.cells #[.int .u8 0,.int .u16 0,.int .u8 0,.int .u8 0,.int .u8 0,.int .u16 0,.int .u8 0,.string ⟨#[]⟩,.bool false] 101)));have HR:=Lh (anw w #[.int .u8 0,.int .u16 0,.int .u8 0,.int .u8 0,.int .u8 0,.int .u16 0,.int .u8 0,.string ⟨#[]⟩,.bool false] 101);have HB:=Lh (bnew (w:=w) (.cells #[.int .u8 0,.int .u16 0,.int .u8 0,.int .u8 0,.int .u8 0,.int .u16 0,.int .u8 0,.string ⟨#[]⟩,.bool false] 101));have d1:decide ((l.length:Int)≤(i:Int))=false:=by simp;omega
 have d2:decide (l.length≤i)=false:=by simp;omega
 have HX:=Lh hx;clear h hx;go_enter Tryz.func149,Tryz.ntmps149;go_upto_region 1 with fail;generalize w.alloc (.cells #[.int .u8 0,.int .u16 0,.int .u8 0,.int .u8 0,.int .u8 0,.int .u16 0,.int .u8 0,.string ⟨#[]⟩,.bool false] 101)=w0 at *;go_wp2_with fail;refine(slenR_any s l _ HH.o).mono ?_;rintro e w1 ⟨rfl,hw⟩;obtain rfl:=hw.symm;obtain⟨lp,lc,v1,v2,hL,hL2⟩:=HH.o;obtain⟨s0,ss⟩:=hL.c1;obtain⟨a,cap,e1,z1,z2,hc⟩:=hL2.at encVert_len;cases e1
 obtain⟨b,off,rfl,sb,hcb⟩:=hc.resolve_left (by omega);have HRx:=Lh (hcb i x HX.o w0 (Below.refl _ _));obtain⟨x0,x1,x2,x3,x4,x5,x6,x7,x8,sx⟩:=rc9 HRx.o;unfold maxLen at z2;clear hcb hc hL hL2;go_wp2_with ((with_reducible show wpList _ _ _ ({dst:=_,op:=.store _ _ _,type:=_,pos:=_,after:=_,guard:=_} :: _) _ _);refine wpList_store_arr rowVert rfl _ _ rfl _ _ (encVert x) HR.o rfl rfl rfl rfl rfl ?_);exact bodyPost_ret (v:=.tuple #[vertV x,.bool true]) (rasl rowVert rfl (HR.o.row (encVert x)) rfl rfl rfl) rfl (svres_mk (below_setRow HB.o (Nat.le_refl _) _))
theorem svert_any(s i:Nat)(x:VertM)(l:List VertM)(R:List (Nat × Nat))(w:World)(h:ShAt w s l R)(hx:l[i]? = some x):Calls Tryz.prog 149 #[.pointer (some ⟨s,0,none⟩),.int .i64 i] w (SvRes w x):=svertR_any s i x l w h.lines hx
theorem iclone_any(v:Value)(xs:List Nat)(w:World)(hv:GRow encI 1 w v xs)(hl:xs.length≤1000000):Calls Tryz.prog 250 #[v] w (OwnRes encI 1 3 w xs):=by
 obtain⟨a,cap,rfl,h1,h2,hc⟩:=irow_at hv;unfold maxLen at h2;cases a with
 | none =>
  have h0:xs=[]:=by
   rcases hc with h0|⟨b,off,e,_⟩
   · exact List.eq_nil_of_length_eq_zero h0
   · cases e
  have HX:=Lh h0;have hl0:xs.length=0:=by rw [h0];rfl
  have hkn:=fun w=>Lib.run_eql_slice_nil (P:=Tryz.prog) w 160 3 none 0 cap 0 0 Tryz.underlying160;clear hv hc h0;go_enter Tryz.func250,Tryz.ntmps250;go_wp2;go_ret;exact⟨_,rfl,(by rw [HX.o];exact gown_nil _ _),Below.refl _ _⟩
 | some p =>
  have HV:=Lh hv;have hN:0+xs.length≤1099511627776:=by omega
  have hkn:=fun w=>Lib.run_eql_slice_nil (P:=Tryz.prog) w 160 3 (some p) xs.length cap 0 0 Tryz.underlying160;clear hv hc;go_enter Tryz.func250,Tryz.ntmps250;go_wp2_with (at_builtin;refine wpList_append_old slIntI rfl _ _ rfl w.heap.size (.slice (some ⟨w.heap.size,0,none⟩) 0 0) 0 [] (own_lit0 w _ 1 w.heap.size (Nat.le_refl _)) rfl (.slice (some p) xs.length cap) xs.length (xs.flatMap encI) (HV.o.over (bnew _)) rfl (oneInts xs) hN (by decide) (by simp) ?_;intro v9 w9 ho9 hg9;have HO9:=Lh (show GOwn encI 1 3 w9 w.heap.size v9 xs by(have:=ho9;rw [Nat.zero_add,List.nil_append] at this;exact this));have HB9:=Lh (bgr (bnew (w:=w) (.cells #[] 3)) (by simp) (own_lit0 w 3 1 w.heap.size (Nat.le_refl _)) hg9);clear ho9 hg9);go_ret;exact⟨_,rfl,HO9.o,HB9.o⟩
theorem sorder_any(s:Nat)(l:List VertM)(R:List (Nat × Nat))(w:World)(h:ShAt w s l R)(hl:l.length≤65536):Calls Tryz.prog 189 #[.pointer (some ⟨s,0,none⟩)] w (OwnRes encI 1 3 w (orderM R l.length)):=by
 obtain⟨lp,lc,r,op,oc,hL⟩:=h.look;have s2:=hL.arr.k 2 rfl;have ss:=hL.arr.lt;have HO:=Lh hL.ord;have hol:(orderM R l.length).length≤1000000:=by rw [orderM_len];omega
 clear h hL;go_enter Tryz.func189,Tryz.ntmps189;go_wp2_with fail;refine(iclone_any _ _ _ HO.o hol).mono ?_;rintro e w1 ⟨v,rfl,ho,hb⟩;have HO1:=Lh ho;have HB1:=Lh hb;clear ho hb;go_wp2;go_ret;exact⟨_,rfl,HO1.o,HB1.o⟩
def deadQL(l:List VertM)(i:Nat):Bool:=deadLine l i
def aliveQL(l:List VertM)(i:Nat):Bool := !deadLine l i
theorem deadQL_at{x:VertM}(h:l[i]? = some x):deadQL l i=x.dead:=by unfold deadQL deadLine;rw [h]
def keptI(l:List VertM)(xs:List Nat)(j:Nat):List Nat:=(xs.take j).filter (aliveQL l)
theorem keptI_yes{u:Nat}(h:xs[j]? = some u)(hd:deadQL l u=false):keptI l xs (j+1)=keptI l xs j++[u]:=by unfold keptI;rw [take_one h,List.filter_append];unfold deadQL at hd;simp [aliveQL,hd]
theorem keptI_no{u:Nat}(h:xs[j]? = some u)(hd:deadQL l u=true):keptI l xs (j+1)=keptI l xs j:=by unfold keptI;rw [take_one h,List.filter_append];unfold deadQL at hd;simp [aliveQL,hd]
theorem keptI_all(l:List VertM)(xs:List Nat):keptI l xs xs.length=xs.filter (aliveQL l):=by unfold keptI;rw [List.take_length]
theorem idxI_cases(l:List VertM)(xs:List Nat):(idxB (deadQL l) xs = -1∧xs.filter (aliveQL l)=xs)∨∃ k u,k<xs.length∧idxB (deadQL l) xs=(k:Int)∧xs[k]? = some u∧deadQL l u=true∧keptI l xs k=xs.take k:=by
 unfold idxB;cases h:xs.findIdx? (deadQL l) with
 | none =>rw [List.findIdx?_eq_none_iff] at h;exact .inl ⟨rfl,List.filter_eq_self.2 fun x hx=>by have:=h x hx;unfold deadQL at this;simp [aliveQL,this]⟩
 | some k =>rw [List.findIdx?_eq_some_iff_getElem] at h;obtain⟨hk,h1,h2⟩:=h;refine .inr ⟨k,xs[k],hk,rfl,List.getElem?_eq_getElem hk,h1,?_⟩;unfold keptI;refine List.filter_eq_self.2 fun x hx => ?_;obtain⟨j,hj,rfl⟩:=List.mem_iff_getElem.1 hx;rw [List.length_take] at hj;rw [List.getElem_take];have:=h2 j (by omega);unfold deadQL at this;simp [aliveQL];simpa using this
theorem ints_map(xs:List Nat):xs.flatMap encI=xs.map fun x:Nat=>Value.int .i64 x:=by
 induction xs with
 | nil=>rfl
 | cons x xs ih=>rw [List.flatMap_cons,ih];rfl
theorem ints_set(xs:List Nat)(k x:Nat):(xs.flatMap encI).set k (.int .i64 x)=(xs.set k x).flatMap encI:=by rw [ints_map,ints_map,List.map_set]
theorem ints_len(xs:List Nat):(xs.flatMap encI).length=xs.length:=by rw [ints_map,List.length_map]
theorem ints_get{k x:Nat}(h:xs[k]? = some x):(xs.flatMap encI)[k]? = some (.int .i64 x):=by rw [ints_map,List.getElem?_map,h];rfl
attribute [local irreducible] idxB deadQL aliveQL keptI
theorem aliveFn_any(c s i:Nat)(x:VertM)(l:List VertM)(R:List (Nat × Nat))(w:World)(hc:Arr w c [.pointer (some ⟨s,0,none⟩)])(h:ShAt w s l R)(hx:l[i]? = some x) :
  Calls Tryz.prog 190 #[.int .i64 i,.pointer (some ⟨c,0,none⟩)] w fun e w'=>e=.returned (.bool (deadQL l i))∧w'=w:=by
 have hi:=(List.getElem?_eq_some_iff.1 hx).1;have HV:=Lh (deadQL_at hx);obtain⟨lp,lc,r,op,oc,hL⟩:=h.look;obtain⟨c0,sc⟩:=hc.c1;obtain⟨s0,ss⟩:=hL.arr.c1;obtain⟨a,cap,e1,z1,z2,hcl⟩:=hL.row.at encVert_len;cases e1
 obtain⟨b,off,rfl,sb,hcb⟩:=hcl.resolve_left (by omega);unfold maxLen at z2;have x8:w.cell? ⟨b,off+i*9+8,none⟩=some (.bool x.dead):=(hcb i x hx w (Below.refl _ _)).2 8 _ rfl;clear h hL hcl hcb hx hc;go_enter Tryz.func190,Tryz.ntmps190;go_wp2;go_ret;exact⟨rvb HV.o,rfl⟩
theorem idxAl_any(v:Value)(xs:List Nat)(c s:Nat)(l:List VertM)(R:List (Nat × Nat))(w:World)(hv:GRow encI 1 w v xs)(hc:Arr w c [.pointer (some ⟨s,0,none⟩)])(h:ShAt w s l R)(hx:∀ i∈xs,i<l.length) :
  Calls Tryz.prog 249 #[v,.func (.func 190) #[] #[.pointer (some ⟨c,0,none⟩)]] w fun e w'=>e=.returned (.int .i64 (idxB (deadQL l) xs))∧w'=w:=by
 obtain⟨a,cap,rfl,h1,h2,hcr⟩:=irow_at hv;unfold maxLen at h2;have HC:=Lh hcr;have HS:=Lh h;have HA:=Lh hc;have HX:=Lh hx;clear hv hcr h hc hx;go_enter Tryz.func249,Tryz.ntmps249;go_wp2;go_loopw [8] (fun v8 wr=>∃ k:Nat,k≤xs.length∧v8=.int .i64 k∧Hid ((xs.take k).any (deadQL l)=false)∧wr=w) (fun v8 _=>xs.length - (intOf v8).toNat)
 case atStart=>exact⟨0,by omega,rfl,(by show _=_;simp),rfl⟩
 obtain⟨k,hk,rfl,HK,hw⟩:=hrel;obtain rfl:=hw
 by_cases hlt:k<xs.length
 rotate_left
 ·
  obtain rfl:k=xs.length:=by omega
  have HI:=Lh (idx_miss HK.o);go_wp2;go_ret;exact⟨ret_int HI.o.symm,rfl⟩
 obtain⟨b,off,rfl,sb,hcb⟩:=HC.o.resolve_left (by omega);obtain⟨u,hu⟩:=gol hlt;have u0:=(hcb k u hu _ (Below.refl _ _)).2;have HU:=Lh hu;obtain⟨x,hxu⟩:=gol (HX.o u (List.mem_of_getElem? hu));have HXu:=Lh hxu;clear hcb hu hxu;cases hf:deadQL l u with
 | true =>have HI:=Lh (idx_hit HK.o HU.o (f:=deadQL l) hf);have HV:=Lh hf;clear hf;go_wp2_with fail;refine(aliveFn_any c s u x l R _ HA.o HS.o HXu.o).mono ?_;rintro e w1 ⟨rfl,hw⟩;obtain rfl:=hw.symm;rw [HV.o];go_wp2;go_ret;exact⟨ret_int HI.o.symm,rfl⟩
 | false =>
  have HI:=Lh (any_step HK.o HU.o (f:=deadQL l) hf);have HV:=Lh hf;clear hf;go_wp2_with fail;refine(aliveFn_any c s u x l R _ HA.o HS.o HXu.o).mono ?_;rintro e w1 ⟨rfl,hw⟩;obtain rfl:=hw.symm;rw [HV.o];go_wp2;go_roundw
  case rel=>exact⟨k+1,hlt,by go_num,HI,(by first|exact rfl|trivial)⟩
  simp [intOf];omega
def DelIRes(w:World)(B:Nat)(v:Value)(l:List VertM)(xs:List Nat)(e:Ending)(w':World):Prop:=∃ v',e=.returned v'∧GOwn encI 1 3 w' B v' (xs.filter (aliveQL l))∧w.grownBy w' v.ownBlock
def DelIRel(w:World)(B g cap:Nat)(l:List VertM)(xs:List Nat)(v5 v6:Value)(wr:World):Prop:=
 ∃(m j:Nat) (zs:List Nat),j≤xs.length∧m<j∧v5=.int .i64 m∧v6=.int .i64 j∧zs.length=xs.length∧Hid (zs.take m=keptI l xs j)∧Hid (∀ i,j≤i→zs[i]? = xs[i]?) ∧
  Hid (OwnAt wr B 3 1 g xs.length cap (zs.flatMap encI))∧Hid (w.grownBy wr (some g))
theorem zero_intI:((Tryz.prog.info? 3).bind (·.zero))=some (.int .i64 0):=by kernel_rfl
theorem delAl_any{B:Nat}{v:Value}(c s:Nat)(l:List VertM)(R:List (Nat × Nat))(h:GOwn encI 1 3 w B v xs)(hn:xs.length≤1000000)(hc:Arr w c [.pointer (some ⟨s,0,none⟩)])(hS:ShAt w s l R)(hx:∀ i∈xs,i<l.length)
  (hne:∀ w',w.grownBy w' v.ownBlock→Arr w' c [.pointer (some ⟨s,0,none⟩)]∧ShAt w' s l R) :
  Calls Tryz.prog 188 #[v,.func (.func 190) #[] #[.pointer (some ⟨c,0,none⟩)]] w (DelIRes w B v l xs):=by
 have HO:=Lh h;have hcon:=idxAl_any v xs c s l R w h.row hc hS hx;have HX:=Lh hx;have HNE:=Lh hne;rcases idxI_cases l xs with⟨hi,hf⟩|⟨k0,u0,hk0,hi,hu0,hd0,hkp⟩
 · rw [hi] at hcon;have HF:=Lh hf;clear h hi hf hc hS hx hne;go_enter Tryz.func188,Tryz.ntmps188;go_wp2_with fail;refine hcon.mono ?_;rintro e w1 ⟨rfl,hw⟩;obtain rfl:=hw.symm;clear hcon;go_wp2;go_ret;exact⟨_,rfl,(by rw [HF.o];exact HO.o),World.grownBy.refl _ _⟩
 rw [hi] at hcon;obtain⟨g,cap,rfl,hA⟩:=own_at (show World.ownsRow _ _ _ _ _ _ _ from h) (by omega);have HA:=Lh hA;have hnc:=hA.nc;have hcm:=hA.cm;unfold maxLen at hcm;have hg:=hA.lt;have HK0:Hid (xs.take k0=keptI l xs (k0+1)):=by show _=_;rw [keptI_no hu0 hd0,hkp]
 clear h hi hA hu0 hd0 hkp hc hS hx hne;go_enter Tryz.func188,Tryz.ntmps188;go_wp2_with fail;refine hcon.mono ?_;rintro e w1 ⟨rfl,hw⟩;obtain rfl:=hw.symm;have d0:((k0:Int) == -1)=false:=by simp <;> omega
 clear hcon;go_wp2;go_loopw [5,6] (fun v5 v6 wr=>DelIRel w B g cap l xs v5 v6 wr) (fun _ v6 _=>xs.length - (intOf v6).toNat)
 case atStart=>exact⟨k0,k0+1,xs,hk0,Nat.lt_succ_self _,rfl,by go_num,rfl,HK0,Lh (fun _ _=>rfl),HA,World.grownBy.refl _ _⟩
 obtain⟨m,j,zs,hj,hm,rfl,rfl,hz,HT,HJ,HI,HG⟩:=hrel;rename World=>wr;have sI:=HI.o.lt;have HNr:=Lh (HNE.o wr HG.o)
 by_cases hlt:j<xs.length
 rotate_left
 ·
  obtain rfl:j=xs.length:=by omega
  have HE:Hid (zs.take m=xs.filter (aliveQL l)):=by show _=_;rw [HT.o,keptI_all]
  have hlen:(xs.filter (aliveQL l)).length=m:=by rw [← HE.o,List.length_take];omega
  have HL:=Lh hlen;have HTk:=Lh (HI.o.take (k:=m) (by omega));have hcm2:¬ cap=m:=by omega
  have HF:Hid ((zs.flatMap encI).take (m*1)=(xs.filter (aliveQL l)).flatMap encI):=by show _=_;rw [← HE.o,Nat.mul_one,ints_map,ints_map,List.map_take]
  clear hlen;go_wp2_with (refine wpList_clear_at slIntI _ zero_intI (zero_one (fun u hu=>by simp [Value.cells] at hu;subst hu;rfl)) (fun k=>by rw [size_zeroCells];rfl) rfl _ rfl B g m cap _ HTk.o m _ _ _ (by omega) rfl (Nat.le_refl _) (by omega) ?_;intro w3 hA3 hg3 hs3);go_ret;refine⟨_,rfl,?_,gtr HG.o hg3⟩;show World.ownsRow _ _ _ _ _ _ _;rw [HL.o,← HF.o];exact hA3.own
 obtain⟨u,hu⟩:=gol hlt;have hu2:zs[j]? = some u:=(HJ.o j (Nat.le_refl _)).trans hu;have HU:=Lh hu;have u0:wr.cell? ⟨g,j,none⟩=some (.int .i64 u):=HI.o.cell (ints_get hu2);obtain⟨x,hxu⟩:=gol (HX.o u (List.mem_of_getElem? hu));have HXu:=Lh hxu;clear hu hu2 hxu;cases hf:deadQL l u with
 | true =>
  have HV:=Lh hf;have HK:=Lh (keptI_no HU.o hf);clear hf;go_wp2_with fail;refine(aliveFn_any c s u x l R _ HNr.o.1 HNr.o.2 HXu.o).mono ?_;rintro e w8 ⟨rfl,hw⟩;obtain rfl:=hw.symm;rw [HV.o];go_wp2;go_roundw
  case rel=>exact⟨m,j+1,zs,hlt,by omega,rfl,by go_num,hz,(by show _=_;rw [HK.o];exact HT.o),Lh (fun i hi=>HJ.o i (by omega)),HI,HG⟩
  simp [intOf];omega
 | false =>
  have HV:=Lh hf;have HK:=Lh (keptI_yes HU.o hf);have hml:m<zs.length:=by omega
  obtain⟨y,hy⟩:=gol hml;have m0:wr.cell? ⟨g,m,none⟩=some (.int .i64 y):=HI.o.cell (ints_get hy);have mf:=HI.o.free m;clear hf hy;go_wp2_with fail;refine(aliveFn_any c s u x l R _ HNr.o.1 HNr.o.2 HXu.o).mono ?_;rintro e w8 ⟨rfl,hw⟩;obtain rfl:=hw.symm;rw [HV.o];go_wp2;go_roundw
  case rel=>exact⟨m+1,j+1,zs.set m u,hlt,by omega,by go_num,by go_num,by simpa using hz,(by show _=_;rw [take_set_end hml,HK.o,HT.o]),Lh (fun i hi=>by rw [List.getElem?_set,if_neg (by omega)];exact HJ.o i (by omega)),Lh (by rw [← ints_set];exact HI.o.setCell m (by rw [ints_len];exact hml) _),Lh (gtr HG.o (gsc _ _ _))⟩
  simp [intOf];omega
def SaRes(w:World)(l:List VertM)(R:List (Nat × Nat)):Ending→World→Prop:=OwnRes encI 1 3 w ((orderM R l.length).filter (aliveQL l))
theorem order_lt(h:i∈orderM R n):i<n:=by unfold orderM at h;exact(orderTo_whole R n n).lt i h
theorem salive_any(s:Nat)(l:List VertM)(R:List (Nat × Nat))(w:World)(h:ShAt w s l R)(hl:l.length≤65536):Calls Tryz.prog 118 #[.pointer (some ⟨s,0,none⟩)] w (SaRes w l R):=by
 have HS:=Lh (h.over (bnew (w:=w) (.cells #[.pointer (some ⟨s,0,none⟩)] 90)));have HC:=Lh (arrT_new w [.pointer (some ⟨s,0,none⟩)] 90);have HB:=Lh (bnew (w:=w) (.cells #[.pointer (some ⟨s,0,none⟩)] 90));have hC:=HC.o;have HC2:=Lh (show Arr (w.alloc (.cells #[.pointer (some ⟨s,0,none⟩)] 90)) w.heap.size [.pointer (some ⟨s,0,none⟩)] from hC.arr);clear h hC HC;go_enter Tryz.func118,Tryz.ntmps118;go_upto_region 1 with fail;generalize w.alloc (.cells #[.pointer (some ⟨s,0,none⟩)] 90)=w0 at *;obtain⟨c0,sc⟩:=HC2.o.c1;go_wp2_with fail;refine(sorder_any s l R _ HS.o hl).mono ?_;rintro e w1 ⟨v,rfl,ho,hb⟩;have HO:=Lh ho;have HB1:=Lh hb;have hol:(orderM R l.length).length≤1000000:=by rw [orderM_len];omega
 have hbk:∀ k,v.ownBlock=some k→w0.heap.size≤k:=fun k hk=>gown_low ho hk;have HBK:=Lh hbk;clear ho hb c0 sc hbk;go_wp2_with fail;refine(delAl_any w.heap.size s l R HO.o hol (HC2.o.over HB1.o) (HS.o.over HB1.o) (fun i hi=>order_lt hi) (fun w' hg => ?_)).mono ?_
 · have hb2:Be w0 w':=HB1.o.grown hg HB1.o.size HBK.o;exact⟨HC2.o.over hb2,HS.o.over hb2⟩
 rintro e w2 ⟨v',rfl,ho2,hg2⟩;have HO2:=Lh (ho2.base HB.o.size);have HB2:=Lh (bvo HB.o (HB1.o.grown hg2 HB1.o.size HBK.o));clear ho2 hg2;go_wp2;go_ret;exact⟨_,rfl,HO2.o,HB2.o⟩
open Classical in
noncomputable def firmB(R:List (Nat × Nat))(n i:Nat):Bool:=decide (FirmP R n i)
theorem firmB_iff:firmB R n i=true↔FirmP R n i:=by unfold firmB;simp
theorem firmB_yes(hi:i<n)(h:∀ j,j<n→j≠i→aliB R i j=false):firmB R n i=true:=
 firmB_iff.2 ⟨hi,fun j hj hne ha=>by have:=h j hj hne;rw [aliB_iff.2 ha] at this;cases this⟩
theorem firmB_no(hj:j<n)(hne:j≠i)(h:aliB R i j=true):firmB R n i=false:=by
 cases hf:firmB R n i with
 | false=>rfl
 | true=>exact absurd (aliB_iff.1 h) ((firmB_iff.1 hf).2 j hj hne)
attribute [local irreducible] firmB aliB
theorem sfirm_any(s i:Nat)(l:List VertM)(R:List (Nat × Nat))(w:World)(h:ShAt w s l R)(hi:i<l.length)(hl:l.length≤65536):Calls Tryz.prog 277 #[.pointer (some ⟨s,0,none⟩),.int .i64 i] w fun e w'=>e=.returned (.bool (firmB R l.length i))∧w'=w:=by
 have HS:=Lh h;obtain⟨lp,lc,r,op,oc,hL⟩:=h.look;obtain⟨s0,s1,ss⟩:=hL.arr.c2;have HR:=Lh hL.rel;have d1:decide ((l.length:Int)≤(i:Int))=false:=by simp;omega
 have d2:decide (l.length≤i)=false:=by simp;omega
 clear h hL;go_enter Tryz.func277,Tryz.ntmps277;go_wp2_with fail;refine(slen_any s l R _ HS.o).mono ?_;rintro e w1 ⟨rfl,hw⟩;obtain rfl:=hw.symm;go_wp2;go_loopw [19] (fun v19 wr=>∃ j:Nat,j≤l.length∧v19=.int .i64 j∧Hid (∀ k,k<j→k≠i→aliB R i k=false)∧wr=w) (fun v19 _=>l.length - (intOf v19).toNat)
 case atStart=>exact⟨0,by omega,rfl,Lh (fun k hk=>absurd hk (Nat.not_lt_zero k)),rfl⟩
 obtain⟨j,hj,rfl,HM,hw⟩:=hrel;obtain rfl:=hw
 by_cases hlt:j<l.length
 rotate_left
 ·
  obtain rfl:j=l.length:=by omega
  have HF:=Lh (firmB_yes hi HM.o);go_wp2;go_ret;exact⟨rvb HF.o,rfl⟩
 by_cases he:j=i
 ·
  have e1:((j:Int) == (i:Int))=true:=by simp [he]
  have e2:((j:Int) != (i:Int))=false:=by simp [he]
  have HN:Hid (∀ k,k<j+1→k≠i→aliB R i k=false):=fun k hk hne=>by
   rcases Nat.lt_or_ge k j with hl|hl
   · exact HM.o k hl hne
   exact absurd (show k=i by omega) hne
  clear he;go_wp2;go_roundw
  case rel=>exact⟨j+1,hlt,by go_num,HN,(by first|exact rfl|trivial)⟩
  simp [intOf];omega
 have e1:((j:Int) == (i:Int))=false:=by simp;omega
 have e2:((j:Int) != (i:Int))=true:=by simp;omega
 cases ha:aliB R i j with
 | true =>have HV:=Lh ha;have HF:=Lh (firmB_no hlt he ha);clear ha he;go_wp2_with fail;refine(rchAlike_any r l.length i j R _ HR.o hi hl (by omega)).mono ?_;rintro e w2 ⟨rfl,hw⟩;obtain rfl:=hw.symm;rw [HV.o];go_wp2;go_ret;exact⟨rvb HF.o,rfl⟩
 | false =>
  have HV:=Lh ha;have HN:Hid (∀ k,k<j+1→k≠i→aliB R i k=false):=fun k hk hne=>by
   rcases Nat.lt_or_ge k j with hl|hl
   · exact HM.o k hl hne
   obtain rfl:k=j:=(by omega);exact HV.o
  clear ha he;go_wp2_with fail;refine(rchAlike_any r l.length i j R _ HR.o hi hl (by omega)).mono ?_;rintro e w2 ⟨rfl,hw⟩;obtain rfl:=hw.symm;rw [HV.o];go_wp2;go_roundw
  case rel=>exact⟨j+1,hlt,by go_num,HN,(by first|exact rfl|trivial)⟩
  simp [intOf];omega
end
section
variable{R:List (Nat × Nat)}{l:List VertM}{i k:Nat}
noncomputable def aliveX(l:List VertM)(R:List (Nat × Nat)):List Nat:=(orderM R l.length).filter (aliveQL l)
noncomputable def firmX(l:List VertM)(R:List (Nat × Nat)):List Nat:=(aliveX l R).filter (firmB R l.length)
theorem aliveX_lt(h:i∈aliveX l R):i<l.length:=order_lt (List.mem_filter.1 h).1
theorem aliveX_len(l:List VertM)(R:List (Nat × Nat)):(aliveX l R).length≤l.length:=by have:=List.length_filter_le (aliveQL l) (orderM R l.length);rw [orderM_len] at this;exact this
theorem firmX_lt(h:i∈firmX l R):i<l.length:=aliveX_lt (List.mem_filter.1 h).1
theorem firmX_len(l:List VertM)(R:List (Nat × Nat)):(firmX l R).length≤l.length:=Nat.le_trans (List.length_filter_le _ _) (aliveX_len l R)
noncomputable def firmTo(l:List VertM)(R:List (Nat × Nat))(k:Nat):List Nat:=((aliveX l R).take k).filter (firmB R l.length)
theorem firmTo_zero(l:List VertM)(R:List (Nat × Nat)):firmTo l R 0=[]:=rfl
theorem firmTo_all(l:List VertM)(R:List (Nat × Nat)):firmTo l R (aliveX l R).length=firmX l R:=by unfold firmTo firmX;rw [List.take_length]
theorem firmTo_yes(h:(aliveX l R)[k]? = some i)(hf:firmB R l.length i=true):firmTo l R (k+1)=firmTo l R k++[i]:=by unfold firmTo;rw [take_one h,List.filter_append];simp [hf]
theorem firmTo_no(h:(aliveX l R)[k]? = some i)(hf:firmB R l.length i=false):firmTo l R (k+1)=firmTo l R k:=by unfold firmTo;rw [take_one h,List.filter_append];simp [hf]
theorem firmTo_len(l:List VertM)(R:List (Nat × Nat))(k:Nat):(firmTo l R k).length≤l.length:=by unfold firmTo;refine Nat.le_trans (List.length_filter_le _ _) ?_;rw [List.length_take];exact Nat.le_trans (Nat.min_le_right _ _) (aliveX_len l R)
theorem sares_is(w:World)(l:List VertM)(R:List (Nat × Nat)):SaRes w l R=OwnRes encI 1 3 w (aliveX l R):=rfl
def FmRel(w1:World)(l:List VertM)(R:List (Nat × Nat))(v3 v9:Value)(wr:World):Prop:=∃ k:Nat,k≤(aliveX l R).length∧v9=.int .i64 k∧Hid (GOwn encI 1 3 wr w1.heap.size v3 (firmTo l R k))∧Hid (Be w1 wr)
attribute [local irreducible] aliveX firmX firmTo firmB
def encS1(t:ByteArray):List Value:=[.string t]
theorem encS1_len(t:ByteArray):(encS1 t).length=1:=rfl
theorem slStrE:SlT Tryz.prog 69 9 1 16:=slT_of Tryz.underlying69 (by kernel_rfl) (by decide)
theorem srow_of{w:World}{v:Value}{xs:List ByteArray}(h:GRow encS1 1 w v xs):SRow w v xs:=by
 have e:xs.flatMap encS1=xs.map Value.string:=by
  clear h;induction xs with
  | nil=>rfl
  | cons x xs ih=>rw [List.flatMap_cons,ih];rfl
 unfold GRow at h;rw [e] at h;exact h
def textAt(l:List VertM)(i:Nat):ByteArray:=(l.getD i noVert).text
theorem textAt_get{x:VertM}(h:l[i]? = some x):textAt l i=x.text:=by unfold textAt;rw [getD_of h]
def textsTo(l:List VertM)(is':List Nat)(k:Nat):List ByteArray:=(is'.take k).map (textAt l)
theorem textsTo_zero(l:List VertM)(is':List Nat):textsTo l is' 0=[]:=rfl
theorem textsTo_succ{is':List Nat}(h:is'[k]? = some i):textsTo l is' (k+1)=textsTo l is' k++[textAt l i]:=by unfold textsTo;rw [take_one h,List.map_append];rfl
theorem textsTo_all(l:List VertM)(is':List Nat):textsTo l is' is'.length=is'.map (textAt l):=by unfold textsTo;rw [List.take_length]
theorem textsTo_len(l:List VertM)(is':List Nat)(k:Nat):(textsTo l is' k).length≤is'.length:=by unfold textsTo;rw [List.length_map,List.length_take];omega
def TxRel(w:World)(l:List VertM)(is':List Nat)(v5 v12:Value)(wr:World):Prop:=∃ k:Nat,k≤is'.length∧v12=.int .i64 k∧Hid (GOwn encS1 1 9 wr w.heap.size v5 (textsTo l is' k))∧Hid (Be w wr)
attribute [local irreducible] textAt textsTo
end
section
def keptV1(ks:List Int):List Value:=ks.map fun x:Int=>.int .i64 x
theorem keptV1_get{ks:List Int}{k:Nat}{x:Int}(h:ks[k]? = some x):(keptV1 ks)[k]? = some (.int .i64 x):=by unfold keptV1;rw [List.getElem?_map,h];rfl
theorem keptV1_set(ks:List Int)(k:Nat)(x:Int):(keptV1 ks).set k (.int .i64 x)=keptV1 (ks.set k x):=by unfold keptV1;rw [List.map_set]
def minus(j m:Nat):List Int:=(List.range m).map fun k=>if k<j then -1 else 0
theorem minus_len(j m:Nat):(minus j m).length=m:=by unfold minus;simp
theorem minus_get{j m k:Nat}(h:k<m):(minus j m)[k]? = some (if k<j then -1 else 0):=by unfold minus;simp [h]
theorem minus_zero(m:Nat):keptV1 (minus 0 m)=List.replicate m (.int .i64 0):=by unfold keptV1 minus;simp [List.map_const']
theorem minus_all(m:Nat):minus m m=List.replicate m (-1):=by
 refine List.ext_getElem? fun k => ?_
 by_cases h:k<m
 · rw [minus_get h,List.getElem?_replicate,if_pos h,if_pos h]
 rw [List.getElem?_eq_none (by rw [minus_len];omega),List.getElem?_eq_none (by simp;omega)]
theorem minus_set{j m:Nat}(h:j<m):(minus j m).set j (-1)=minus (j+1) m:=by
 refine List.ext_getElem? fun k => ?_;rw [List.getElem?_set,minus_len]
 by_cases hk:k<m
 ·
  rw [minus_get hk,minus_get hk];rcases Nat.lt_trichotomy k j with q|q|q
  · rw [if_neg (by omega),if_pos q,if_pos (by omega)]
  · subst q;simp [hk]
  rw [if_neg (by omega),if_neg (by omega),if_neg (by omega)]
 rw [if_neg (by omega),List.getElem?_eq_none (by rw [minus_len];omega),List.getElem?_eq_none (by rw [minus_len];omega)]
theorem slzIntE:SlZ Tryz.prog 160 3 (.int .i64 0) 8:=slZ_of Tryz.underlying160 (by kernel_rfl) rfl
def KpRes(w:World)(ks:List Int)(e:Ending)(w':World):Prop:=∃ g,e=.returned (.slice (some ⟨g,0,none⟩) ks.length ks.length)∧w.heap.size≤g∧ArrT w' g 3 (keptV1 ks)∧Be w w'
def K1Rel(w:World)(g m:Nat)(v15:Value)(wr:World):Prop:=∃ j:Nat,j≤m∧v15=.int .i64 j∧Hid (ArrT wr g 3 (keptV1 (minus j m)))∧Hid (Be w wr)
def K2Rel(w w4:World)(g m:Nat)(firm:List Nat)(ps:List (Nat × Nat))(v30:Value)(wr:World):Prop:=∃ k:Nat,k≤ps.length∧v30=.int .i64 k∧Hid (ArrT wr g 3 (keptV1 (keptTo firm (ps.take k) m)))∧Hid (w4.grownBy wr (some g))∧Hid (Be w wr)
theorem kp_zero(firm:List Nat)(ps:List (Nat × Nat))(m:Nat):minus m m=keptTo firm (ps.take 0) m:=by rw [minus_all,kept_zero]
theorem texts_len(l:List VertM)(is':List Nat):(is'.map (textAt l)).length=is'.length:=List.length_map ..
attribute [local irreducible] keptV1 minus keptTo textAt firmX
end
variable{x:Int}{ks:List Int}
theorem numV_inj(x y:Int)(h:numV x=numV y):x=y:=by unfold numV at h;cases h;rfl
theorem zero_numV(u:World):(zeroValue 3).run Tryz.prog u=.ok (numV 0) u:=by kernel_rfl
def hereF(ks:List Int)(k:Nat):Int→Option Int:=fun x=>if x∈ks.take k then some 1 else none
theorem hereF_zero(ks:List Int):hereF ks 0=fun _=>none:=by funext x;simp [hereF]
theorem hereF_succ{k:Nat}(h:ks[k]? = some x):updM (hereF ks k) x 1=hereF ks (k+1):=by
 funext y;have e:(y∈ks.take (k+1))↔(y∈ks.take k∨y=x):=by rw [take_one h];simp
 unfold updM hereF
 by_cases h1:y=x
 · rw [if_pos h1,if_pos (e.2 (.inr h1))]
 by_cases h2:y∈ks.take k
 · rw [if_neg h1,if_pos h2,if_pos (e.2 (.inl h2))]
 rw [if_neg h1,if_neg h2,if_neg (fun q=>(e.1 q).elim h2 h1)]
theorem hereF_yes(h:ks.contains x=true):numV ((hereF ks ks.length x).getD 0)=.int .i64 1:=by unfold hereF;rw [List.take_length,if_pos (by simpa using h)];rfl
theorem hereF_no(h:ks.contains x=false):numV ((hereF ks ks.length x).getD 0)=.int .i64 0:=by unfold hereF;rw [List.take_length,if_neg (by simpa using h)];rfl
theorem killV5_at{l:List VertM}{i:Nat}{x:VertM}(h:l[i]? = some x):killV5 l i=⟨5,x.id,noVid,⟨#[]⟩⟩:=by unfold killV5;rw [getD_of h]
def I1Rel(w0:World)(m:Nat)(ks:List Int)(v16:Value)(wr:World):Prop:=∃ k N:Nat,k≤ks.length∧N≤k∧v16=.int .i64 k∧Hid (TMap Tryz.prog 3 numV okInt numV wr m N (hereF ks k))∧Hid (Be w0 wr)
def I2Rel(w1:World)(l:List VertM)(al:List Nat)(ks:List Int)(v8 v26:Value)(wr:World):Prop:=∃ k:Nat,k≤al.length∧v26=.int .i64 k∧Hid (GOwn encOp 8 76 wr w1.heap.size v8 (killsE l (al.take k) ks))∧Hid (Be w1 wr)
attribute [local irreducible] hereF killsE keptV1 aliveX killV5
end Go.Proofs.YtjccmcgglfncdaaGreatDoor
