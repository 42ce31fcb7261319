/- What is proved: MergeTurns, for every input; of the listed tables the walk needs the powers of ten. -/
import Derived.Test.YtjccmcgglfncdaaGreatDoorULinB
import Derived.Test.YtjccmcgglfncdaaGreatDoorURefP
set_option linter.unusedVariables false
set_option linter.unusedSimpArgs false
set_option maxRecDepth 100000
set_option maxHeartbeats 40000000
namespace Go.Proofs.YtjccmcgglfncdaaGreatDoor
open Go Go.RowKit
section
variable{R:List (Nat × Nat)}{xs:List Nat}{l:List VertM}{i j n s:Nat}{w:World}
structure ShLook (w:World) (s:Nat) (l:List VertM) (R:List (Nat × Nat)) (lp:Option Addr) (lc r:Nat) (op:Option Addr) (oc:Nat):Prop where
 arr:Arr w s [.slice lp l.length lc,.pointer (some ⟨r,0,none⟩),.slice op l.length oc]
 row:GRow encVert 9 w (.slice lp l.length lc) l
 rel:RelAt w r l.length R
 ord:GRow encI 1 w (.slice op l.length oc) (orderM R l.length)
theorem ShAt.look(h:ShAt w s l R):∃ lp lc r op oc,ShLook w s l R lp lc r op oc:=by obtain⟨lp,lc,r,op,oc,h1,h2,h3,h4⟩:=h;exact⟨lp,lc,r,op,oc,h1,h2,h3,h4⟩
attribute [local irreducible] orderM
def ShRow(w:World)(s:Nat)(l:List VertM):Prop:=∃ lp lc v1 v2,Arr w s [.slice lp l.length lc,v1,v2]∧GRow encVert 9 w (.slice lp l.length lc) l
theorem ShRow.over{w':World}(h:ShRow w s l)(hb:Be w w'):ShRow w' s l:=by obtain⟨lp,lc,v1,v2,h1,h2⟩:=h;exact⟨lp,lc,v1,v2,h1.over hb,h2.over hb⟩
theorem ShAt.lines(h:ShAt w s l R):ShRow w s l:=by obtain⟨lp,lc,r,op,oc,h1,h2,_⟩:=h;exact⟨lp,lc,_,_,h1,h2⟩
theorem slenR_any(s:Nat)(l:List VertM)(w:World)(h:ShRow w s l):Calls Tryz.prog 222 #[.pointer (some ⟨s,0,none⟩)] w fun e w'=>e=.returned (.int .i64 l.length)∧w'=w:=by obtain⟨lp,lc,v1,v2,hL,_⟩:=h;obtain⟨s0,ss⟩:=hL.c1;clear hL;go_enter Tryz.func222,Tryz.ntmps222;go_wp2;go_ret;exact⟨rfl,rfl⟩
theorem slen_any(s:Nat)(l:List VertM)(R:List (Nat × Nat))(w:World)(h:ShAt w s l R):Calls Tryz.prog 222 #[.pointer (some ⟨s,0,none⟩)] w fun e w'=>e=.returned (.int .i64 l.length)∧w'=w:=slenR_any s l w h.lines
theorem srel_any(s:Nat)(l:List VertM)(R:List (Nat × Nat))(w:World)(h:ShAt w s l R):Calls Tryz.prog 117 #[.pointer (some ⟨s,0,none⟩)] w fun e w'=>(∃ r,e=.returned (.pointer (some ⟨r,0,none⟩))∧RelAt w r l.length R)∧w'=w:=by obtain⟨lp,lc,r,op,oc,hL⟩:=h.look;have s1:=hL.arr.k 1 rfl;have ss:=hL.arr.lt;have HR:=Lh hL.rel;clear h hL;go_enter Tryz.func117,Tryz.ntmps117;go_wp2;go_ret;exact⟨⟨r,rfl,HR.o⟩,rfl⟩
def SvRes(w:World)(x:VertM)(e:Ending)(w':World):Prop:=e=.returned (.tuple #[vertV x,.bool true])∧Be w w'
theorem svres_mk{w':World}{x:VertM}(h:Be w w'):SvRes w x (.returned (.tuple #[vertV x,.bool true])) w':=⟨rfl,h⟩
theorem svertR_any(s i:Nat)(x:VertM)(l:List VertM)(w:World)(h:ShRow w s l)(hx:l[i]? = some x):Calls Tryz.prog 149 #[.pointer (some ⟨s,0,none⟩),.int .i64 i] w (SvRes w x):=by
 have hi:=(List.getElem?_eq_some_iff.1 hx).1;have HH:=Lh (h.over (bnew (w:=w) (.cells #[.int .u8 0,.int .u16 0,.int .u8 0,.int .u8 0,.int .u8 0,.int .u16 0,.int .u8 0,.string ⟨#[]⟩,.bool false] 101)));have HR:=Lh (anw w #[.int .u8 0,.int .u16 0,.int .u8 0,.int .u8 0,.int .u8 0,.int .u16 0,.int .u8 0,.string ⟨#[]⟩,.bool false] 101);have HB:=Lh (bnew (w:=w) (.cells #[.int .u8 0,.int .u16 0,.int .u8 0,.int .u8 0,.int .u8 0,.int .u16 0,.int .u8 0,.string ⟨#[]⟩,.bool false] 101));have d1:decide ((l.length:Int)≤(i:Int))=false:=by simp;omega
 have d2:decide (l.length≤i)=false:=by simp;omega
 have HX:=Lh hx;clear h hx;go_enter Tryz.func149,Tryz.ntmps149;go_upto_region 1 with fail;generalize w.alloc (.cells #[.int .u8 0,.int .u16 0,.int .u8 0,.int .u8 0,.int .u8 0,.int .u16 0,.int .u8 0,.string ⟨#[]⟩,.bool false] 101)=w0 at *;go_wp2_with fail;refine(slenR_any s l _ HH.o).mono ?_;rintro e w1 ⟨rfl,hw⟩;obtain rfl:=hw.symm;obtain⟨lp,lc,v1,v2,hL,hL2⟩:=HH.o;obtain⟨s0,ss⟩:=hL.c1;obtain⟨a,cap,e1,z1,z2,hc⟩:=hL2.at encVert_len;cases e1
 obtain⟨b,off,rfl,sb,hcb⟩:=hc.resolve_left (by omega);have HRx:=Lh (hcb i x HX.o w0 (Below.refl _ _));obtain⟨x0,x1,x2,x3,x4,x5,x6,x7,x8,sx⟩:=rc9 HRx.o;unfold maxLen at z2;clear hcb hc hL hL2;go_wp2_with ((with_reducible show wpList _ _ _ ({dst:=_,op:=.store _ _ _,type:=_,pos:=_,after:=_,guard:=_} :: _) _ _);refine wpList_store_arr rowVert rfl _ _ rfl _ _ (encVert x) HR.o rfl rfl rfl rfl rfl ?_);exact bodyPost_ret (v:=.tuple #[vertV x,.bool true]) (rasl rowVert rfl (HR.o.row (encVert x)) rfl rfl rfl) rfl (svres_mk (below_setRow HB.o (Nat.le_refl _) _))
theorem svert_any(s i:Nat)(x:VertM)(l:List VertM)(R:List (Nat × Nat))(w:World)(h:ShAt w s l R)(hx:l[i]? = some x):Calls Tryz.prog 149 #[.pointer (some ⟨s,0,none⟩),.int .i64 i] w (SvRes w x):=svertR_any s i x l w h.lines hx
theorem iclone_any(v:Value)(xs:List Nat)(w:World)(hv:GRow encI 1 w v xs)(hl:xs.length≤1000000):Calls Tryz.prog 250 #[v] w (OwnRes encI 1 3 w xs):=by
 obtain⟨a,cap,rfl,h1,h2,hc⟩:=irow_at hv;unfold maxLen at h2;cases a with
 | none =>
  have h0:xs=[]:=by
   rcases hc with h0|⟨b,off,e,_⟩
   · exact List.eq_nil_of_length_eq_zero h0
   · cases e
  have HX:=Lh h0;have hl0:xs.length=0:=by rw [h0];rfl
  have hkn:=fun w=>Lib.run_eql_slice_nil (P:=Tryz.prog) w 160 3 none 0 cap 0 0 Tryz.underlying160;clear hv hc h0;go_enter Tryz.func250,Tryz.ntmps250;go_wp2;go_ret;exact⟨_,rfl,(by rw [HX.o];exact gown_nil _ _),Below.refl _ _⟩
 | some p =>
  have HV:=Lh hv;have hN:0+xs.length≤1099511627776:=by omega
  have hkn:=fun w=>Lib.run_eql_slice_nil (P:=Tryz.prog) w 160 3 (some p) xs.length cap 0 0 Tryz.underlying160;clear hv hc;go_enter Tryz.func250,Tryz.ntmps250;go_wp2_with (at_builtin;refine wpList_append_old slIntI rfl _ _ rfl w.heap.size (.slice (some ⟨w.heap.size,0,none⟩) 0 0) 0 [] (own_lit0 w _ 1 w.heap.size (Nat.le_refl _)) rfl (.slice (some p) xs.length cap) xs.length (xs.flatMap encI) (HV.o.over (bnew _)) rfl (oneInts xs) hN (by decide) (by simp) ?_;intro v9 w9 ho9 hg9;have HO9:=Lh (show GOwn encI 1 3 w9 w.heap.size v9 xs by(have:=ho9;rw [Nat.zero_add,List.nil_append] at this;exact this));have HB9:=Lh (bgr (bnew (w:=w) (.cells #[] 3)) (by simp) (own_lit0 w 3 1 w.heap.size (Nat.le_refl _)) hg9);clear ho9 hg9);go_ret;exact⟨_,rfl,HO9.o,HB9.o⟩
theorem sorder_any(s:Nat)(l:List VertM)(R:List (Nat × Nat))(w:World)(h:ShAt w s l R)(hl:l.length≤65536):Calls Tryz.prog 189 #[.pointer (some ⟨s,0,none⟩)] w (OwnRes encI 1 3 w (orderM R l.length)):=by
 obtain⟨lp,lc,r,op,oc,hL⟩:=h.look;have s2:=hL.arr.k 2 rfl;have ss:=hL.arr.lt;have HO:=Lh hL.ord;have hol:(orderM R l.length).length≤1000000:=by rw [orderM_len];omega
 clear h hL;go_enter Tryz.func189,Tryz.ntmps189;go_wp2_with fail;refine(iclone_any _ _ _ HO.o hol).mono ?_;rintro e w1 ⟨v,rfl,ho,hb⟩;have HO1:=Lh ho;have HB1:=Lh hb;clear ho hb;go_wp2;go_ret;exact⟨_,rfl,HO1.o,HB1.o⟩
def deadQL(l:List VertM)(i:Nat):Bool:=deadLine l i
def aliveQL(l:List VertM)(i:Nat):Bool := !deadLine l i
theorem deadQL_at{x:VertM}(h:l[i]? = some x):deadQL l i=x.dead:=by unfold deadQL deadLine;rw [h]
def keptI(l:List VertM)(xs:List Nat)(j:Nat):List Nat:=(xs.take j).filter (aliveQL l)
theorem keptI_yes{u:Nat}(h:xs[j]? = some u)(hd:deadQL l u=false):keptI l xs (j+1)=keptI l xs j++[u]:=by unfold keptI;rw [take_one h,List.filter_append];unfold deadQL at hd;simp [aliveQL,hd]
theorem keptI_no{u:Nat}(h:xs[j]? = some u)(hd:deadQL l u=true):keptI l xs (j+1)=keptI l xs j:=by unfold keptI;rw [take_one h,List.filter_append];unfold deadQL at hd;simp [aliveQL,hd]
theorem keptI_all(l:List VertM)(xs:List Nat):keptI l xs xs.length=xs.filter (aliveQL l):=by unfold keptI;rw [List.take_length]
theorem idxI_cases(l:List VertM)(xs:List Nat):(idxB (deadQL l) xs = -1∧xs.filter (aliveQL l)=xs)∨∃ k u,k<xs.length∧idxB (deadQL l) xs=(k:Int)∧xs[k]? = some u∧deadQL l u=true∧keptI l xs k=xs.take k:=by
 unfold idxB;cases h:xs.findIdx? (deadQL l) with
 | none =>rw [List.findIdx?_eq_none_iff] at h;exact .inl ⟨rfl,List.filter_eq_self.2 fun x hx=>by have:=h x hx;unfold deadQL at this;simp [aliveQL,this]⟩
 | some k =>rw [List.findIdx?_eq_some_iff_getElem] at h;obtain⟨hk,h1,h2⟩:=h;refine .inr ⟨k,xs[k],hk,rfl,List.getElem?_eq_getElem hk,h1,?_⟩;unfold keptI;refine List.filter_eq_self.2 fun x hx => ?_;obtain⟨j,hj,rfl⟩:=List.mem_iff_getElem.1 hx;rw [List.length_take] at hj;rw [List.getElem_take];have:=h2 j (by omega);unfold deadQL at this;simp [aliveQL];simpa using this
theorem ints_map(xs:List Nat):xs.flatMap encI=xs.map fun x:Nat=>Value.int .i64 x:=by
 induction xs with
 | nil=>rfl
 | cons x xs ih=>rw [List.flatMap_cons,ih];rfl
theorem ints_set(xs:List Nat)(k x:Nat):(xs.flatMap encI).set k (.int .i64 x)=(xs.set k x).flatMap encI:=by rw [ints_map,ints_map,List.map_set]
theorem ints_len(xs:List Nat):(xs.flatMap encI).length=xs.length:=by rw [ints_map,List.length_map]
theorem ints_get{k x:Nat}(h:xs[k]? = some x):(xs.flatMap encI)[k]? = some (.int .i64 x):=by rw [ints_map,List.getElem?_map,h];rfl
attribute [local irreducible] idxB deadQL aliveQL keptI
theorem aliveFn_any(c s i:Nat)(x:VertM)(l:List VertM)(R:List (Nat × Nat))(w:World)(hc:Arr w c [.pointer (some ⟨s,0,none⟩)])(h:ShAt w s l R)(hx:l[i]? = some x) :
  Calls Tryz.prog 190 #[.int .i64 i,.pointer (some ⟨c,0,none⟩)] w fun e w'=>e=.returned (.bool (deadQL l i))∧w'=w:=by
 have hi:=(List.getElem?_eq_some_iff.1 hx).1;have HV:=Lh (deadQL_at hx);obtain⟨lp,lc,r,op,oc,hL⟩:=h.look;obtain⟨c0,sc⟩:=hc.c1;obtain⟨s0,ss⟩:=hL.arr.c1;obtain⟨a,cap,e1,z1,z2,hcl⟩:=hL.row.at encVert_len;cases e1
 obtain⟨b,off,rfl,sb,hcb⟩:=hcl.resolve_left (by omega);unfold maxLen at z2;have x8:w.cell? ⟨b,off+i*9+8,none⟩=some (.bool x.dead):=(hcb i x hx w (Below.refl _ _)).2 8 _ rfl;clear h hL hcl hcb hx hc;go_enter Tryz.func190,Tryz.ntmps190;go_wp2;go_ret;exact⟨rvb HV.o,rfl⟩
theorem idxAl_any(v:Value)(xs:List Nat)(c s:Nat)(l:List VertM)(R:List (Nat × Nat))(w:World)(hv:GRow encI 1 w v xs)(hc:Arr w c [.pointer (some ⟨s,0,none⟩)])(h:ShAt w s l R)(hx:∀ i∈xs,i<l.length) :
  Calls Tryz.prog 249 #[v,.func (.func 190) #[] #[.pointer (some ⟨c,0,none⟩)]] w fun e w'=>e=.returned (.int .i64 (idxB (deadQL l) xs))∧w'=w:=by
 obtain⟨a,cap,rfl,h1,h2,hcr⟩:=irow_at hv;unfold maxLen at h2;have HC:=Lh hcr;have HS:=Lh h;have HA:=Lh hc;have HX:=Lh hx;clear hv hcr h hc hx;go_enter Tryz.func249,Tryz.ntmps249;go_wp2;go_loopw [8] (fun v8 wr=>∃ k:Nat,k≤xs.length∧v8=.int .i64 k∧Hid ((xs.take k).any (deadQL l)=false)∧wr=w) (fun v8 _=>xs.length - (intOf v8).toNat)
 case atStart=>exact⟨0,by omega,rfl,(by show _=_;simp),rfl⟩
 obtain⟨k,hk,rfl,HK,hw⟩:=hrel;obtain rfl:=hw
 by_cases hlt:k<xs.length
 rotate_left
 ·
  obtain rfl:k=xs.length:=by omega
  have HI:=Lh (idx_miss HK.o);go_wp2;go_ret;exact⟨ret_int HI.o.symm,rfl⟩
 obtain⟨b,off,rfl,sb,hcb⟩:=HC.o.resolve_left (by omega);obtain⟨u,hu⟩:=gol hlt;have u0:=(hcb k u hu _ (Below.refl _ _)).2;have HU:=Lh hu;obtain⟨x,hxu⟩:=gol (HX.o u (List.mem_of_getElem? hu));have HXu:=Lh hxu;clear hcb hu hxu;cases hf:deadQL l u with
 | true =>have HI:=Lh (idx_hit HK.o HU.o (f:=deadQL l) hf);have HV:=Lh hf;clear hf;go_wp2_with fail;refine(aliveFn_any c s u x l R _ HA.o HS.o HXu.o).mono ?_;rintro e w1 ⟨rfl,hw⟩;obtain rfl:=hw.symm;rw [HV.o];go_wp2;go_ret;exact⟨ret_int HI.o.symm,rfl⟩
 | false =>
  have HI:=Lh (any_step HK.o HU.o (f:=deadQL l) hf);have HV:=Lh hf;clear hf;go_wp2_with fail;refine(aliveFn_any c s u x l R _ HA.o HS.o HXu.o).mono ?_;rintro e w1 ⟨rfl,hw⟩;obtain rfl:=hw.symm;rw [HV.o];go_wp2;go_roundw
  case rel=>exact⟨k+1,hlt,by go_num,HI,(by first|exact rfl|trivial)⟩
  simp [intOf];omega
def DelIRes(w:World)(B:Nat)(v:Value)(l:List VertM)(xs:List Nat)(e:Ending)(w':World):Prop:=∃ v',e=.returned v'∧GOwn encI 1 3 w' B v' (xs.filter (aliveQL l))∧w.grownBy w' v.ownBlock
def DelIRel(w:World)(B g cap:Nat)(l:List VertM)(xs:List Nat)(v5 v6:Value)(wr:World):Prop:=
 ∃(m j:Nat) (zs:List Nat),j≤xs.length∧m<j∧v5=.int .i64 m∧v6=.int .i64 j∧zs.length=xs.length∧Hid (zs.take m=keptI l xs j)∧Hid (∀ i,j≤i→zs[i]? = xs[i]?) ∧
  Hid (OwnAt wr B 3 1 g xs.length cap (zs.flatMap encI))∧Hid (w.grownBy wr (some g))
theorem zero_intI:((Tryz.prog.info? 3).bind (·.zero))=some (.int .i64 0):=by kernel_rfl
theorem delAl_any{B:Nat}{v:Value}(c s:Nat)(l:List VertM)(R:List (Nat × Nat))(h:GOwn encI 1 3 w B v xs)(hn:xs.length≤1000000)(hc:Arr w c [.pointer (some ⟨s,0,none⟩)])(hS:ShAt w s l R)(hx:∀ i∈xs,i<l.length)
  (hne:∀ w',w.grownBy w' v.ownBlock→Arr w' c [.pointer (some ⟨s,0,none⟩)]∧ShAt w' s l R) :
  Calls Tryz.prog 188 #[v,.func (.func 190) #[] #[.pointer (some ⟨c,0,none⟩)]] w (DelIRes w B v l xs):=by
 have HO:=Lh h;have hcon:=idxAl_any v xs c s l R w h.row hc hS hx;have HX:=Lh hx;have HNE:=Lh hne;rcases idxI_cases l xs with⟨hi,hf⟩|⟨k0,u0,hk0,hi,hu0,hd0,hkp⟩
 · rw [hi] at hcon;have HF:=Lh hf;clear h hi hf hc hS hx hne;go_enter Tryz.func188,Tryz.ntmps188;go_wp2_with fail;refine hcon.mono ?_;rintro e w1 ⟨rfl,hw⟩;obtain rfl:=hw.symm;clear hcon;go_wp2;go_ret;exact⟨_,rfl,(by rw [HF.o];exact HO.o),World.grownBy.refl _ _⟩
 rw [hi] at hcon;obtain⟨g,cap,rfl,hA⟩:=own_at (show World.ownsRow _ _ _ _ _ _ _ from h) (by omega);have HA:=Lh hA;have hnc:=hA.nc;have hcm:=hA.cm;unfold maxLen at hcm;have hg:=hA.lt;have HK0:Hid (xs.take k0=keptI l xs (k0+1)):=by show _=_;rw [keptI_no hu0 hd0,hkp]
 clear h hi hA hu0 hd0 hkp hc hS hx hne;go_enter Tryz.func188,Tryz.ntmps188;go_wp2_with fail;refine hcon.mono ?_;rintro e w1 ⟨rfl,hw⟩;obtain rfl:=hw.symm;have d0:((k0:Int) == -1)=false:=by simp <;> omega
 clear hcon;go_wp2;go_loopw [5,6] (fun v5 v6 wr=>DelIRel w B g cap l xs v5 v6 wr) (fun _ v6 _=>xs.length - (intOf v6).toNat)
 case atStart=>exact⟨k0,k0+1,xs,hk0,Nat.lt_succ_self _,rfl,by go_num,rfl,HK0,Lh (fun _ _=>rfl),HA,World.grownBy.refl _ _⟩
 obtain⟨m,j,zs,hj,hm,rfl,rfl,hz,HT,HJ,HI,HG⟩:=hrel;rename World=>wr;have sI:=HI.o.lt;have HNr:=Lh (HNE.o wr HG.o)
 by_cases hlt:j<xs.length
 rotate_left
 ·
  obtain rfl:j=xs.length:=by omega
  have HE:Hid (zs.take m=xs.filter (aliveQL l)):=by show _=_;rw [HT.o,keptI_all]
  have hlen:(xs.filter (aliveQL l)).length=m:=by rw [← HE.o,List.length_take];omega
  have HL:=Lh hlen;have HTk:=Lh (HI.o.take (k:=m) (by omega));have hcm2:¬ cap=m:=by omega
  have HF:Hid ((zs.flatMap encI).take (m*1)=(xs.filter (aliveQL l)).flatMap encI):=by show _=_;rw [← HE.o,Nat.mul_one,ints_map,ints_map,List.map_take]
  clear hlen;go_wp2_with (refine wpList_clear_at slIntI _ zero_intI (zero_one (fun u hu=>by simp [Value.cells] at hu;subst hu;rfl)) (fun k=>by rw [size_zeroCells];rfl) rfl _ rfl B g m cap _ HTk.o m _ _ _ (by omega) rfl (Nat.le_refl _) (by omega) ?_;intro w3 hA3 hg3 hs3);go_ret;refine⟨_,rfl,?_,gtr HG.o hg3⟩;show World.ownsRow _ _ _ _ _ _ _;rw [HL.o,← HF.o];exact hA3.own
 obtain⟨u,hu⟩:=gol hlt;have hu2:zs[j]? = some u:=(HJ.o j (Nat.le_refl _)).trans hu;have HU:=Lh hu;have u0:wr.cell? ⟨g,j,none⟩=some (.int .i64 u):=HI.o.cell (ints_get hu2);obtain⟨x,hxu⟩:=gol (HX.o u (List.mem_of_getElem? hu));have HXu:=Lh hxu;clear hu hu2 hxu;cases hf:deadQL l u with
 | true =>
  have HV:=Lh hf;have HK:=Lh (keptI_no HU.o hf);clear hf;go_wp2_with fail;refine(aliveFn_any c s u x l R _ HNr.o.1 HNr.o.2 HXu.o).mono ?_;rintro e w8 ⟨rfl,hw⟩;obtain rfl:=hw.symm;rw [HV.o];go_wp2;go_roundw
  case rel=>exact⟨m,j+1,zs,hlt,by omega,rfl,by go_num,hz,(by show _=_;rw [HK.o];exact HT.o),Lh (fun i hi=>HJ.o i (by omega)),HI,HG⟩
  simp [intOf];omega
 | false =>
  have HV:=Lh hf;have HK:=Lh (keptI_yes HU.o hf);have hml:m<zs.length:=by omega
  obtain⟨y,hy⟩:=gol hml;have m0:wr.cell? ⟨g,m,none⟩=some (.int .i64 y):=HI.o.cell (ints_get hy);have mf:=HI.o.free m;clear hf hy;go_wp2_with fail;refine(aliveFn_any c s u x l R _ HNr.o.1 HNr.o.2 HXu.o).mono ?_;rintro e w8 ⟨rfl,hw⟩;obtain rfl:=hw.symm;rw [HV.o];go_wp2;go_roundw
  case rel=>exact⟨m+1,j+1,zs.set m u,hlt,by omega,by go_num,by go_num,by simpa using hz,(by show _=_;rw [take_set_end hml,HK.o,HT.o]),Lh (fun i hi=>by rw [List.getElem?_set,if_neg (by omega)];exact HJ.o i (by omega)),Lh (by rw [← ints_set];exact HI.o.setCell m (by rw [ints_len];exact hml) _),Lh (gtr HG.o (gsc _ _ _))⟩
  simp [intOf];omega
def SaRes(w:World)(l:List VertM)(R:List (Nat × Nat)):Ending→World→Prop:=OwnRes encI 1 3 w ((orderM R l.length).filter (aliveQL l))
theorem order_lt(h:i∈orderM R n):i<n:=by unfold orderM at h;exact(orderTo_whole R n n).lt i h
theorem salive_any(s:Nat)(l:List VertM)(R:List (Nat × Nat))(w:World)(h:ShAt w s l R)(hl:l.length≤65536):Calls Tryz.prog 118 #[.pointer (some ⟨s,0,none⟩)] w (SaRes w l R):=by
 have HS:=Lh (h.over (bnew (w:=w) (.cells #[.pointer (some ⟨s,0,none⟩)] 90)));have HC:=Lh (arrT_new w [.pointer (some ⟨s,0,none⟩)] 90);have HB:=Lh (bnew (w:=w) (.cells #[.pointer (some ⟨s,0,none⟩)] 90));have hC:=HC.o;have HC2:=Lh (show Arr (w.alloc (.cells #[.pointer (some ⟨s,0,none⟩)] 90)) w.heap.size [.pointer (some ⟨s,0,none⟩)] from hC.arr);clear h hC HC;go_enter Tryz.func118,Tryz.ntmps118;go_upto_region 1 with fail;generalize w.alloc (.cells #[.pointer (some ⟨s,0,none⟩)] 90)=w0 at *;obtain⟨c0,sc⟩:=HC2.o.c1;go_wp2_with fail;refine(sorder_any s l R _ HS.o hl).mono ?_;rintro e w1 ⟨v,rfl,ho,hb⟩;have HO:=Lh ho;have HB1:=Lh hb;have hol:(orderM R l.length).length≤1000000:=by rw [orderM_len];omega
 have hbk:∀ k,v.ownBlock=some k→w0.heap.size≤k:=fun k hk=>gown_low ho hk;have HBK:=Lh hbk;clear ho hb c0 sc hbk;go_wp2_with fail;refine(delAl_any w.heap.size s l R HO.o hol (HC2.o.over HB1.o) (HS.o.over HB1.o) (fun i hi=>order_lt hi) (fun w' hg => ?_)).mono ?_
 · have hb2:Be w0 w':=HB1.o.grown hg HB1.o.size HBK.o;exact⟨HC2.o.over hb2,HS.o.over hb2⟩
 rintro e w2 ⟨v',rfl,ho2,hg2⟩;have HO2:=Lh (ho2.base HB.o.size);have HB2:=Lh (bvo HB.o (HB1.o.grown hg2 HB1.o.size HBK.o));clear ho2 hg2;go_wp2;go_ret;exact⟨_,rfl,HO2.o,HB2.o⟩
open Classical in
noncomputable def firmB(R:List (Nat × Nat))(n i:Nat):Bool:=decide (FirmP R n i)
theorem firmB_iff:firmB R n i=true↔FirmP R n i:=by unfold firmB;simp
theorem firmB_yes(hi:i<n)(h:∀ j,j<n→j≠i→aliB R i j=false):firmB R n i=true:=
 firmB_iff.2 ⟨hi,fun j hj hne ha=>by have:=h j hj hne;rw [aliB_iff.2 ha] at this;cases this⟩
theorem firmB_no(hj:j<n)(hne:j≠i)(h:aliB R i j=true):firmB R n i=false:=by
 cases hf:firmB R n i with
 | false=>rfl
 | true=>exact absurd (aliB_iff.1 h) ((firmB_iff.1 hf).2 j hj hne)
attribute [local irreducible] firmB aliB
theorem sfirm_any(s i:Nat)(l:List VertM)(R:List (Nat × Nat))(w:World)(h:ShAt w s l R)(hi:i<l.length)(hl:l.length≤65536):Calls Tryz.prog 277 #[.pointer (some ⟨s,0,none⟩),.int .i64 i] w fun e w'=>e=.returned (.bool (firmB R l.length i))∧w'=w:=by
 have HS:=Lh h;obtain⟨lp,lc,r,op,oc,hL⟩:=h.look;obtain⟨s0,s1,ss⟩:=hL.arr.c2;have HR:=Lh hL.rel;have d1:decide ((l.length:Int)≤(i:Int))=false:=by simp;omega
 have d2:decide (l.length≤i)=false:=by simp;omega
 clear h hL;go_enter Tryz.func277,Tryz.ntmps277;go_wp2_with fail;refine(slen_any s l R _ HS.o).mono ?_;rintro e w1 ⟨rfl,hw⟩;obtain rfl:=hw.symm;go_wp2;go_loopw [19] (fun v19 wr=>∃ j:Nat,j≤l.length∧v19=.int .i64 j∧Hid (∀ k,k<j→k≠i→aliB R i k=false)∧wr=w) (fun v19 _=>l.length - (intOf v19).toNat)
 case atStart=>exact⟨0,by omega,rfl,Lh (fun k hk=>absurd hk (Nat.not_lt_zero k)),rfl⟩
 obtain⟨j,hj,rfl,HM,hw⟩:=hrel;obtain rfl:=hw
 by_cases hlt:j<l.length
 rotate_left
 ·
  obtain rfl:j=l.length:=by omega
  have HF:=Lh (firmB_yes hi HM.o);go_wp2;go_ret;exact⟨rvb HF.o,rfl⟩
 by_cases he:j=i
 ·
  have e1:((j:Int) == (i:Int))=true:=by simp [he]
  have e2:((j:Int) != (i:Int))=false:=by simp [he]
  have HN:Hid (∀ k,k<j+1→k≠i→aliB R i k=false):=fun k hk hne=>by
   rcases Nat.lt_or_ge k j with hl|hl
   · exact HM.o k hl hne
   exact absurd (show k=i by omega) hne
  clear he;go_wp2;go_roundw
  case rel=>exact⟨j+1,hlt,by go_num,HN,(by first|exact rfl|trivial)⟩
  simp [intOf];omega
 have e1:((j:Int) == (i:Int))=false:=by simp;omega
 have e2:((j:Int) != (i:Int))=true:=by simp;omega
 cases ha:aliB R i j with
 | true =>have HV:=Lh ha;have HF:=Lh (firmB_no hlt he ha);clear ha he;go_wp2_with fail;refine(rchAlike_any r l.length i j R _ HR.o hi hl (by omega)).mono ?_;rintro e w2 ⟨rfl,hw⟩;obtain rfl:=hw.symm;rw [HV.o];go_wp2;go_ret;exact⟨rvb HF.o,rfl⟩
 | false =>
  have HV:=Lh ha;have HN:Hid (∀ k,k<j+1→k≠i→aliB R i k=false):=fun k hk hne=>by
   rcases Nat.lt_or_ge k j with hl|hl
   · exact HM.o k hl hne
   obtain rfl:k=j:=(by omega);exact HV.o
  clear ha he;go_wp2_with fail;refine(rchAlike_any r l.length i j R _ HR.o hi hl (by omega)).mono ?_;rintro e w2 ⟨rfl,hw⟩;obtain rfl:=hw.symm;rw [HV.o];go_wp2;go_roundw
  case rel=>exact⟨j+1,hlt,by go_num,HN,(by first|exact rfl|trivial)⟩
  simp [intOf];omega
end
section
variable{R:List (Nat × Nat)}{l:List VertM}{i k:Nat}
noncomputable def aliveX(l:List VertM)(R:List (Nat × Nat)):List Nat:=(orderM R l.length).filter (aliveQL l)
noncomputable def firmX(l:List VertM)(R:List (Nat × Nat)):List Nat:=(aliveX l R).filter (firmB R l.length)
theorem aliveX_lt(h:i∈aliveX l R):i<l.length:=order_lt (List.mem_filter.1 h).1
theorem aliveX_len(l:List VertM)(R:List (Nat × Nat)):(aliveX l R).length≤l.length:=by have:=List.length_filter_le (aliveQL l) (orderM R l.length);rw [orderM_len] at this;exact this
theorem firmX_lt(h:i∈firmX l R):i<l.length:=aliveX_lt (List.mem_filter.1 h).1
theorem firmX_len(l:List VertM)(R:List (Nat × Nat)):(firmX l R).length≤l.length:=Nat.le_trans (List.length_filter_le _ _) (aliveX_len l R)
noncomputable def firmTo(l:List VertM)(R:List (Nat × Nat))(k:Nat):List Nat:=((aliveX l R).take k).filter (firmB R l.length)
theorem firmTo_zero(l:List VertM)(R:List (Nat × Nat)):firmTo l R 0=[]:=rfl
theorem firmTo_all(l:List VertM)(R:List (Nat × Nat)):firmTo l R (aliveX l R).length=firmX l R:=by unfold firmTo firmX;rw [List.take_length]
theorem firmTo_yes(h:(aliveX l R)[k]? = some i)(hf:firmB R l.length i=true):firmTo l R (k+1)=firmTo l R k++[i]:=by unfold firmTo;rw [take_one h,List.filter_append];simp [hf]
theorem firmTo_no(h:(aliveX l R)[k]? = some i)(hf:firmB R l.length i=false):firmTo l R (k+1)=firmTo l R k:=by unfold firmTo;rw [take_one h,List.filter_append];simp [hf]
theorem firmTo_len(l:List VertM)(R:List (Nat × Nat))(k:Nat):(firmTo l R k).length≤l.length:=by unfold firmTo;refine Nat.le_trans (List.length_filter_le _ _) ?_;rw [List.length_take];exact Nat.le_trans (Nat.min_le_right _ _) (aliveX_len l R)
theorem sares_is(w:World)(l:List VertM)(R:List (Nat × Nat)):SaRes w l R=OwnRes encI 1 3 w (aliveX l R):=rfl
def FmRel(w1:World)(l:List VertM)(R:List (Nat × Nat))(v3 v9:Value)(wr:World):Prop:=∃ k:Nat,k≤(aliveX l R).length∧v9=.int .i64 k∧Hid (GOwn encI 1 3 wr w1.heap.size v3 (firmTo l R k))∧Hid (Be w1 wr)
attribute [local irreducible] aliveX firmX firmTo firmB
def encS1(t:ByteArray):List Value:=[.string t]
theorem encS1_len(t:ByteArray):(encS1 t).length=1:=rfl
theorem slStrE:SlT Tryz.prog 69 9 1 16:=slT_of Tryz.underlying69 (by kernel_rfl) (by decide)
theorem srow_of{w:World}{v:Value}{xs:List ByteArray}(h:GRow encS1 1 w v xs):SRow w v xs:=by
 have e:xs.flatMap encS1=xs.map Value.string:=by
  clear h;induction xs with
  | nil=>rfl
  | cons x xs ih=>rw [List.flatMap_cons,ih];rfl
 unfold GRow at h;rw [e] at h;exact h
def textAt(l:List VertM)(i:Nat):ByteArray:=(l.getD i noVert).text
theorem textAt_get{x:VertM}(h:l[i]? = some x):textAt l i=x.text:=by unfold textAt;rw [getD_of h]
def textsTo(l:List VertM)(is':List Nat)(k:Nat):List ByteArray:=(is'.take k).map (textAt l)
theorem textsTo_zero(l:List VertM)(is':List Nat):textsTo l is' 0=[]:=rfl
theorem textsTo_succ{is':List Nat}(h:is'[k]? = some i):textsTo l is' (k+1)=textsTo l is' k++[textAt l i]:=by unfold textsTo;rw [take_one h,List.map_append];rfl
theorem textsTo_all(l:List VertM)(is':List Nat):textsTo l is' is'.length=is'.map (textAt l):=by unfold textsTo;rw [List.take_length]
theorem textsTo_len(l:List VertM)(is':List Nat)(k:Nat):(textsTo l is' k).length≤is'.length:=by unfold textsTo;rw [List.length_map,List.length_take];omega
def TxRel(w:World)(l:List VertM)(is':List Nat)(v5 v12:Value)(wr:World):Prop:=∃ k:Nat,k≤is'.length∧v12=.int .i64 k∧Hid (GOwn encS1 1 9 wr w.heap.size v5 (textsTo l is' k))∧Hid (Be w wr)
attribute [local irreducible] textAt textsTo
end
section
def keptV1(ks:List Int):List Value:=ks.map fun x:Int=>.int .i64 x
theorem keptV1_get{ks:List Int}{k:Nat}{x:Int}(h:ks[k]? = some x):(keptV1 ks)[k]? = some (.int .i64 x):=by unfold keptV1;rw [List.getElem?_map,h];rfl
theorem keptV1_set(ks:List Int)(k:Nat)(x:Int):(keptV1 ks).set k (.int .i64 x)=keptV1 (ks.set k x):=by unfold keptV1;rw [List.map_set]
def minus(j m:Nat):List Int:=(List.range m).map fun k=>if k<j then -1 else 0
theorem minus_len(j m:Nat):(minus j m).length=m:=by unfold minus;simp
theorem minus_get{j m k:Nat}(h:k<m):(minus j m)[k]? = some (if k<j then -1 else 0):=by unfold minus;simp [h]
theorem minus_zero(m:Nat):keptV1 (minus 0 m)=List.replicate m (.int .i64 0):=by unfold keptV1 minus;simp [List.map_const']
theorem minus_all(m:Nat):minus m m=List.replicate m (-1):=by
 refine List.ext_getElem? fun k => ?_
 by_cases h:k<m
 · rw [minus_get h,List.getElem?_replicate,if_pos h,if_pos h]
 rw [List.getElem?_eq_none (by rw [minus_len];omega),List.getElem?_eq_none (by simp;omega)]
theorem minus_set{j m:Nat}(h:j<m):(minus j m).set j (-1)=minus (j+1) m:=by
 refine List.ext_getElem? fun k => ?_;rw [List.getElem?_set,minus_len]
 by_cases hk:k<m
 ·
  rw [minus_get hk,minus_get hk];rcases Nat.lt_trichotomy k j with q|q|q
  · rw [if_neg (by omega),if_pos q,if_pos (by omega)]
  · subst q;simp [hk]
  rw [if_neg (by omega),if_neg (by omega),if_neg (by omega)]
 rw [if_neg (by omega),List.getElem?_eq_none (by rw [minus_len];omega),List.getElem?_eq_none (by rw [minus_len];omega)]
theorem slzIntE:SlZ Tryz.prog 160 3 (.int .i64 0) 8:=slZ_of Tryz.underlying160 (by kernel_rfl) rfl
def KpRes(w:World)(ks:List Int)(e:Ending)(w':World):Prop:=∃ g,e=.returned (.slice (some ⟨g,0,none⟩) ks.length ks.length)∧w.heap.size≤g∧ArrT w' g 3 (keptV1 ks)∧Be w w'
def K1Rel(w:World)(g m:Nat)(v15:Value)(wr:World):Prop:=∃ j:Nat,j≤m∧v15=.int .i64 j∧Hid (ArrT wr g 3 (keptV1 (minus j m)))∧Hid (Be w wr)
def K2Rel(w w4:World)(g m:Nat)(firm:List Nat)(ps:List (Nat × Nat))(v30:Value)(wr:World):Prop:=∃ k:Nat,k≤ps.length∧v30=.int .i64 k∧Hid (ArrT wr g 3 (keptV1 (keptTo firm (ps.take k) m)))∧Hid (w4.grownBy wr (some g))∧Hid (Be w wr)
theorem kp_zero(firm:List Nat)(ps:List (Nat × Nat))(m:Nat):minus m m=keptTo firm (ps.take 0) m:=by rw [minus_all,kept_zero]
theorem texts_len(l:List VertM)(is':List Nat):(is'.map (textAt l)).length=is'.length:=List.length_map ..
attribute [local irreducible] keptV1 minus keptTo textAt firmX
end
variable{x:Int}{ks:List Int}
theorem numV_inj(x y:Int)(h:numV x=numV y):x=y:=by unfold numV at h;cases h;rfl
theorem zero_numV(u:World):(zeroValue 3).run Tryz.prog u=.ok (numV 0) u:=by kernel_rfl
def hereF(ks:List Int)(k:Nat):Int→Option Int:=fun x=>if x∈ks.take k then some 1 else none
theorem hereF_zero(ks:List Int):hereF ks 0=fun _=>none:=by funext x;simp [hereF]
theorem hereF_succ{k:Nat}(h:ks[k]? = some x):updM (hereF ks k) x 1=hereF ks (k+1):=by
 funext y;have e:(y∈ks.take (k+1))↔(y∈ks.take k∨y=x):=by rw [take_one h];simp
 unfold updM hereF
 by_cases h1:y=x
 · rw [if_pos h1,if_pos (e.2 (.inr h1))]
 by_cases h2:y∈ks.take k
 · rw [if_neg h1,if_pos h2,if_pos (e.2 (.inl h2))]
 rw [if_neg h1,if_neg h2,if_neg (fun q=>(e.1 q).elim h2 h1)]
theorem hereF_yes(h:ks.contains x=true):numV ((hereF ks ks.length x).getD 0)=.int .i64 1:=by unfold hereF;rw [List.take_length,if_pos (by simpa using h)];rfl
theorem hereF_no(h:ks.contains x=false):numV ((hereF ks ks.length x).getD 0)=.int .i64 0:=by unfold hereF;rw [List.take_length,if_neg (by simpa using h)];rfl
theorem killV5_at{l:List VertM}{i:Nat}{x:VertM}(h:l[i]? = some x):killV5 l i=⟨5,x.id,noVid,⟨#[]⟩⟩:=by unfold killV5;rw [getD_of h]
def I1Rel(w0:World)(m:Nat)(ks:List Int)(v16:Value)(wr:World):Prop:=∃ k N:Nat,k≤ks.length∧N≤k∧v16=.int .i64 k∧Hid (TMap Tryz.prog 3 numV okInt numV wr m N (hereF ks k))∧Hid (Be w0 wr)
def I2Rel(w1:World)(l:List VertM)(al:List Nat)(ks:List Int)(v8 v26:Value)(wr:World):Prop:=∃ k:Nat,k≤al.length∧v26=.int .i64 k∧Hid (GOwn encOp 8 76 wr w1.heap.size v8 (killsE l (al.take k) ks))∧Hid (Be w1 wr)
attribute [local irreducible] hereF killsE keptV1 aliveX killV5
end Go.Proofs.YtjccmcgglfncdaaGreatDoor
set_option maxRecDepth 100000
set_option maxHeartbeats 40000000
namespace Go.Proofs.YtjccmcgglfncdaaGreatDoor
open Go Go.RowKit
variable{xs:List VertM}{B:Nat}
section
variable {P : Program} {ty : TypeId} {size : Nat} {w : World} {ops : Array Oper} {rest : List Oper} {o : Oper} {a : Act} {Q : Exit → Act → World → Prop}
theorem wpList_store_own(T:RowT P ty size)(hgd:o.guard=none)(x y:Operand)(ho:o.op=.store ty x y){e:TypeId}{sz g n cap:Nat}{xs:List Value}(hA:OwnAt w B e sz g n cap xs)(k:Nat)(new:List Value)
  (hx:a.eval x=.pointer (some ⟨g,k,none⟩)) (hy:a.eval y=.agg new.toArray) (hn:new.length=size) (hk:k+new.length≤n*sz) (h1:∀ u∈new,u.oneCell'=true)
  (h:∀ w',OwnAt w' B e sz g n cap (xs.take k++new++xs.drop (k+new.length))→w.grownBy w' (some g)→w'.heap.size=w.heap.size→wpList P ops Q rest (a.put o.dst undef) w'):wpList P ops Q (o :: rest) a w:=by
 refine wpList_plain hgd fun K hK => ?_;obtain⟨d,i,_,_,h3,h4⟩:=T.out;obtain⟨w',hs,r1,r2,r3⟩:=hA.put (P:=P) h1 hk;have hc:(Value.agg new.toArray).cells=new.toArray:=rfl;have hr:(storeVar ty ⟨g,k,none⟩ (.agg new.toArray)).run P w=.ok () w':=by simp [storeVar,sizeOf,typeInfo,h3,h4,hc,hn,hs]
 unfold Oper.wp execOp;simp only [ho,hx,hy,Instr.storeAt,Instr.sureAddr,Sem.run_bind,Sem.run_pure,Result.andThen_ok,hr];exact hK _ _ (h w' r1 r2 r3)
end
theorem oneZ_Vert:∀ u∈((.agg #[.int .u8 0,.int .u16 0,.int .u8 0,.int .u8 0,.int .u8 0,.int .u16 0,.int .u8 0,.string ⟨#[]⟩,.bool false]:Value).cells).toList,u.oneCell'=true:=List.all_eq_true.1 rfl
theorem zero_Vert:((Tryz.prog.info? 101).bind (·.zero))=some (.agg #[.int .u8 0,.int .u16 0,.int .u8 0,.int .u8 0,.int .u8 0,.int .u16 0,.int .u8 0,.string ⟨#[]⟩,.bool false]):=by kernel_rfl
theorem deadFn_any(x:VertM)(w:World):Calls Tryz.prog 139 #[vertV x] w fun e w'=>e=.returned (.bool x.dead)∧Be w w':=by have HX:=Lh (anw w (cX x) 101);have HB:=Lh (bnew (w:=w) (.cells (cX x) 101));unfold vertV;go_enter Tryz.func139,Tryz.ntmps139;go_upto_region 1 with fail;generalize w.alloc (.cells (cX x) 101)=w0 at *;obtain⟨c0,c1,c2,c3,c4,c5,c6,c7,c8,sc⟩:=HX.o.c9;go_wp2;go_ret;exact⟨rfl,HB.o⟩
def deadQ(x:VertM):Bool:=x.dead
def IdRes(w:World)(xs:List VertM)(e:Ending)(w':World):Prop:=e=.returned (.int .i64 (idxB deadQ xs))∧Be w w'
attribute [local irreducible] idxB
theorem idxDead_any(v:Value)(xs:List VertM)(w:World)(hv:GRow encVert 9 w v xs)(hl:xs.length≤1000000) :
  Calls Tryz.prog 213 #[v,.func (.func 139) #[] #[]] w (IdRes w xs):=by
 obtain⟨a,cap,rfl,h1,h2,hc⟩:=hv.at encVert_len;unfold maxLen at h2;have HC:=Lh hc;clear hv hc;go_enter Tryz.func213,Tryz.ntmps213;go_wp2;go_loopw [8] (fun v8 wr=>∃ k:Nat,k≤xs.length∧v8=.int .i64 k∧Hid ((xs.take k).any deadQ=false)∧Be w wr) (fun v8 _=>xs.length - (intOf v8).toNat)
 case atStart=>exact⟨0,by omega,rfl,(by show _=_;simp),Below.refl _ _⟩
 obtain⟨k,hk,rfl,HK,hbl⟩:=hrel;rename World=>wr
 by_cases hlt:k<xs.length
 rotate_left
 ·
  obtain rfl:k=xs.length:=by omega
  have HI:=Lh (idx_miss HK.o);go_wp2;go_ret;exact⟨ret_int HI.o.symm,hbl⟩
 obtain⟨b,off,rfl,sb,hcb⟩:=HC.o.resolve_left (by omega);obtain⟨u,hu⟩:=gol hlt;have HU:=Lh (hcb k u hu wr hbl);obtain⟨u0,u1,u2,u3,u4,u5,u6,u7,u8,su⟩:=rc9 HU.o;have HX:=Lh hu;clear hcb hu;go_wp2_with fail;refine(deadFn_any u _).mono ?_;rintro e w1 ⟨rfl,hb1⟩;have HB1:=Lh (bvo hbl hb1);clear hb1 u0 u1 u2 u3 u4 u5 u6 u7 u8 su;cases hf:u.dead with
 | true =>have HI:=Lh (idx_hit HK.o HX.o (f:=deadQ) hf);clear hf;go_wp2;go_ret;exact⟨ret_int HI.o.symm,HB1.o⟩
 | false =>
  have HI:=Lh (any_step HK.o HX.o (f:=deadQ) hf);clear hf;go_wp2;go_roundw
  case rel=>exact⟨k+1,hlt,by go_num,HI,HB1.o⟩
  simp [intOf];omega
def aliveQ(x:VertM):Bool := !x.dead
def keptV(xs:List VertM)(j:Nat):List VertM:=(xs.take j).filter aliveQ
theorem kept_yes{j:Nat}{u:VertM}(h:xs[j]? = some u)(hd:u.dead=false):keptV xs (j+1)=keptV xs j++[u]:=by unfold keptV;rw [take_succ' h,List.filter_append];simp [aliveQ,hd]
theorem kept_no{j:Nat}{u:VertM}(h:xs[j]? = some u)(hd:u.dead=true):keptV xs (j+1)=keptV xs j:=by unfold keptV;rw [take_succ' h,List.filter_append];simp [aliveQ,hd]
theorem kept_all(xs:List VertM):keptV xs xs.length=xs.filter aliveQ:=by unfold keptV;rw [List.take_length]
theorem idx_cases(xs:List VertM):(idxB deadQ xs = -1∧xs.filter aliveQ=xs)∨∃ k u,k<xs.length∧idxB deadQ xs=(k:Int)∧xs[k]? = some u∧u.dead=true∧keptV xs k=xs.take k:=by
 unfold idxB;cases h:xs.findIdx? deadQ with
 | none =>rw [List.findIdx?_eq_none_iff] at h;exact .inl ⟨rfl,List.filter_eq_self.2 fun x hx=>by have:=h x hx;unfold deadQ at this;simp [aliveQ,this]⟩
 | some k =>rw [List.findIdx?_eq_some_iff_getElem] at h;obtain⟨hk,h1,h2⟩:=h;refine .inr ⟨k,xs[k],hk,rfl,List.getElem?_eq_getElem hk,h1,?_⟩;unfold keptV;refine List.filter_eq_self.2 fun x hx => ?_;obtain⟨j,hj,rfl⟩:=List.mem_iff_getElem.1 hx;rw [List.length_take] at hj;rw [List.getElem_take];have:=h2 j (by omega);unfold deadQ at this;simp [aliveQ];simpa using this
def DelRes(w:World)(B:Nat)(v:Value)(xs:List VertM)(e:Ending)(w':World):Prop:=∃ v',e=.returned v'∧GOwn encVert 9 101 w' B v' (xs.filter aliveQ)∧w.grownBy w' v.ownBlock
def DelRel(w:World)(B g cap:Nat)(xs:List VertM)(v5 v6:Value)(wr:World):Prop:=
 ∃(m j:Nat) (zs:List VertM),j≤xs.length∧m<j∧v5=.int .i64 m∧v6=.int .i64 j∧zs.length=xs.length∧Hid (zs.take m=keptV xs j)∧Hid (∀ i,j≤i→zs[i]? = xs[i]?) ∧
  Hid (OwnAt wr B 101 9 g xs.length cap (zs.flatMap encVert))∧Hid (w.grownBy wr (some g))
attribute [local irreducible] keptV aliveQ
theorem delete_any{w:World}{v:Value}(h:GOwn encVert 9 101 w B v xs)(hn:xs.length≤1000000) :
  Calls Tryz.prog 138 #[v,.func (.func 139) #[] #[]] w (DelRes w B v xs):=by
 have HO:=Lh h;have hcon:=idxDead_any v xs w h.row hn;unfold IdRes at hcon;rcases idx_cases xs with⟨hi,hf⟩|⟨k0,u0,hk0,hi,hu0,hd0,hkp⟩
 · rw [hi] at hcon;have HF:=Lh hf;clear h hi hf;go_enter Tryz.func138,Tryz.ntmps138;go_wp2_with fail;refine hcon.mono ?_;rintro e w1 ⟨rfl,hb1⟩;have HB1:=Lh hb1;clear hcon hb1;go_wp2;go_ret;exact⟨_,rfl,(by rw [HF.o];exact HO.o.over HB1.o),grown_of_below HB1.o⟩
 rw [hi] at hcon;obtain⟨g,cap,rfl,hA⟩:=own_at (show World.ownsRow _ _ _ _ _ _ _ from h) (by omega);have HA:=Lh hA;have hnc:=hA.nc;have hcm:=hA.cm;unfold maxLen at hcm;have hg:=hA.lt;have HK0:Hid (xs.take k0=keptV xs (k0+1)):=by show _=_;rw [kept_no hu0 hd0,hkp]
 clear h hi hA hu0 hd0 hkp;go_enter Tryz.func138,Tryz.ntmps138;go_wp2_with fail;refine hcon.mono ?_;rintro e w1 ⟨rfl,hb1⟩;have HA1:=Lh (HA.o.over hb1);have HG1:=Lh (grown_of_below hb1 (row:=some g));have d0:((k0:Int) == -1)=false:=by simp <;> omega
 clear hcon hb1;go_wp2;go_loopw [5,6] (fun v5 v6 wr=>DelRel w B g cap xs v5 v6 wr) (fun _ v6 _=>xs.length - (intOf v6).toNat)
 case atStart=>exact⟨k0,k0+1,xs,hk0,Nat.lt_succ_self _,rfl,by go_num,rfl,HK0,Lh (fun _ _=>rfl),HA1,HG1⟩
 obtain⟨m,j,zs,hj,hm,rfl,rfl,hz,HT,HJ,HI,HG⟩:=hrel;rename World=>wr;have sI:=HI.o.lt
 by_cases hlt:j<xs.length
 rotate_left
 ·
  obtain rfl:j=xs.length:=by omega
  have HE:Hid (zs.take m=xs.filter aliveQ):=by show _=_;rw [HT.o,kept_all]
  have hlen:(xs.filter aliveQ).length=m:=by rw [← HE.o,List.length_take];omega
  have HL:=Lh hlen;have HTk:=Lh (HI.o.take (k:=m) (by omega));have hcm2:¬ cap=m:=by omega
  have HF:Hid ((zs.flatMap encVert).take (m*9)=(xs.filter aliveQ).flatMap encVert):=by
   show _=_;rw [← HE.o]
   conv=>lhs;rw [← List.take_append_drop m zs,List.flatMap_append]
   have:((zs.take m).flatMap encVert).length=m*9:=(by rw [flat_len encVert_len,List.length_take,Nat.min_eq_left (by omega)]);rw [List.take_append_of_le_length (by omega),List.take_of_length_le (by omega)]
  clear hlen;go_wp2_with (refine wpList_clear_at slVertP _ zero_Vert (zero_one oneZ_Vert) (fun k=>by rw [size_zeroCells];rfl) rfl _ rfl B g m cap _ HTk.o m _ _ _ rfl rfl (Nat.le_refl _) (by omega) ?_;intro w3 hA3 hg3 hs3);go_ret;refine⟨_,rfl,?_,gtr HG.o hg3⟩;show World.ownsRow _ _ _ _ _ _ _;rw [HL.o,← HF.o];exact hA3.own
 obtain⟨u,hu⟩:=gol hlt;have hu2:zs[j]? = some u:=(HJ.o j (Nat.le_refl _)).trans hu;have HU:=Lh hu;have u0:wr.cell? ⟨g,j*9,none⟩=some (.int .u8 u.id.pid.author.toNat):=HI.o.cell ((flat_get encVert_len _ j 0 u hu2 (by decide)).trans rfl);have u1:wr.cell? ⟨g,j*9+1,none⟩=some (.int .u16 u.id.pid.seq.toNat):=HI.o.cell ((flat_get encVert_len _ j 1 u hu2 (by decide)).trans rfl);have u2:wr.cell? ⟨g,j*9+2,none⟩=some (.int .u8 u.id.n.toNat):=HI.o.cell ((flat_get encVert_len _ j 2 u hu2 (by decide)).trans rfl);have u3:wr.cell? ⟨g,j*9+3,none⟩=some (.int .u8 u.kind.toNat):=HI.o.cell ((flat_get encVert_len _ j 3 u hu2 (by decide)).trans rfl);have u4:wr.cell? ⟨g,j*9+4,none⟩=some (.int .u8 u.file.pid.author.toNat):=HI.o.cell ((flat_get encVert_len _ j 4 u hu2 (by decide)).trans rfl);have u5:wr.cell? ⟨g,j*9+5,none⟩=some (.int .u16 u.file.pid.seq.toNat):=HI.o.cell ((flat_get encVert_len _ j 5 u hu2 (by decide)).trans rfl);have u6:wr.cell? ⟨g,j*9+6,none⟩=some (.int .u8 u.file.n.toNat):=HI.o.cell ((flat_get encVert_len _ j 6 u hu2 (by decide)).trans rfl);have u7:wr.cell? ⟨g,j*9+7,none⟩=some (.string u.text):=HI.o.cell ((flat_get encVert_len _ j 7 u hu2 (by decide)).trans rfl);have u8:wr.cell? ⟨g,j*9+8,none⟩=some (.bool u.dead):=HI.o.cell ((flat_get encVert_len _ j 8 u hu2 (by decide)).trans rfl);clear hu hu2;go_upto_region 8 with fail;have HA7:=Lh (anw wr (cX u) 101);have HB7:=Lh (bnew (w:=wr) (.cells (cX u) 101));generalize wr.alloc (.cells (cX u) 101)=w7 at *;clear u0 u1 u2 u3 u4 u5 u6 u7 u8;obtain⟨y0,y1,y2,y3,y4,y5,y6,y7,y8,sy⟩:=HA7.o.c9;go_wp2_with fail;refine(deadFn_any u _).mono ?_;rintro e w8 ⟨rfl,hb8⟩;have HB8:=Lh (bvo HB7.o hb8);have HA8:=Lh (HA7.o.over hb8);have HI8:=Lh (HI.o.over HB8.o);have HG8:=Lh (gtr HG.o (grown_of_below HB8.o (row:=some g)));clear hb8 y0 y1 y2 y3 y4 y5 y6 y7 y8 sy;obtain⟨z0,z1,z2,z3,z4,z5,z6,z7,z8,sz⟩:=HA8.o.c9;cases hf:u.dead with
 | true =>
  have HK:=Lh (kept_no HU.o hf);clear hf;go_wp2;go_roundw
  case rel=>exact⟨m,j+1,zs,hlt,by omega,rfl,by go_num,hz,(by show _=_;rw [HK.o];exact HT.o),Lh (fun i hi=>HJ.o i (by omega)),HI8,HG8⟩
  simp [intOf];omega
 | false =>
  have HK:=Lh (kept_yes HU.o hf);have hml:m<zs.length:=by omega
  have HFs:=Lh (flat_set encVert_len zs m u hml);have hel:=encVert_len u;have hone:=oneVert u;clear hf;go_wp2_with ((with_reducible show wpList _ _ _ ({dst:=_,op:=.store _ _ _,type:=_,pos:=_,after:=_,guard:=_} :: _) _ _);(refine wpList_store_own rowVert rfl _ _ rfl HI8.o (m*9) (encVert u) rfl rfl rfl (by rw [hel];omega) hone ?_);intro w9 hI9 hg9 hs9);have HI9:Hid (OwnAt w9 B 101 9 g xs.length cap ((zs.set m u).flatMap encVert)):=by show OwnAt _ _ _ _ _ _ _ _;rw [HFs.o,show(m+1)*9=m*9+(encVert u).length by rw [hel];omega];exact hI9
  have HG9:=Lh (gtr HG8.o hg9);clear hI9 hg9;go_wp2;go_roundw
  case rel=>exact⟨m+1,j+1,zs.set m u,hlt,by omega,by go_num,by go_num,by simpa using hz,(by show _=_;rw [take_set_end hml,HK.o,HT.o]),Lh (fun i hi=>by rw [List.getElem?_set,if_neg (by omega)];exact HJ.o i (by omega)),HI9,HG9⟩
  simp [intOf];omega
theorem laterCmpG(a b:VertM)(w:World):Calls Tryz.prog 141 #[vertV a,vertV b] w fun e w'=>e=.returned (.int .i64 (cmpLater b.id a.id))∧Grew w w':=by have HA:=Lh ((anw w (cX a) 101).alloc (.cells (cX b) 101));have HC:=Lh (an2 w (.cells (cX a) 101) (cX b) 101);have HB:=Lh (((Grew.refl w).alloc (.cells (cX a) 101)).alloc (.cells (cX b) 101));unfold vertV;go_enter Tryz.func141,Tryz.ntmps141;go_upto_region 1 with fail;generalize (w.alloc (.cells (cX a) 101)).alloc (.cells (cX b) 101)=w0 at *;obtain⟨c0,c1,c2,c3,c4,c5,c6,c7,c8,sc⟩:=HA.o.c9;obtain⟨d0,d1,d2,d3,d4,d5,d6,d7,d8,sd⟩:=HC.o.c9;go_wp2_with fail;refine(vlaterG b.id a.id _).mono ?_;rintro e w1 ⟨rfl,hg⟩;have HG:=Lh (HB.o.trans hg);clear hg;go_wp2;go_ret;exact⟨rfl,HG.o⟩
theorem later_neg(x y:VertM):(cmpLater y.id x.id<0)=(revK x.id<revK y.id):=by have h1:=laterK_lt x.id;have h2:=laterK_lt y.id;unfold cmpLater revK;rw [cmpN_neg];refine propext ⟨fun h => ?_,fun h => ?_⟩ <;> omega
theorem sortLater_any{w:World}{g cap:Nat}(h:OwnAt w B 101 9 g xs.length cap (xs.flatMap encVert))(hn:xs.length≤1000000000) :
  Calls Tryz.prog 140 #[.slice (some ⟨g,0,none⟩) xs.length cap,.func (.func 141) #[] #[]] w (SortRes (fun a b=>cmpLater b.id a.id) encVert 9 101 w B g cap xs):=by have hcon:=sortF_any (P:=Tryz.prog) Tryz.sortVert (k:=9) (enc:=encVert) Tryz.isAgg101 Tryz.sizeOf101 (fun _=>rfl) oneVert (fun a b=>cmpLater b.id a.id) (swo_key (fun x:VertM=>revK x.id) _ later_neg) 141 (enters_of Tryz.func141 (by kernel_rfl) rfl) (fun x y W=>laterCmpG x y W) h (by omega);exact hcon
theorem aliveM_q(L:List PatchM)(f:VidM):(ofM L f 2).filter aliveQ=aliveM L f:=by unfold aliveQ;rfl
theorem ofM_len(L:List PatchM)(f:VidM)(k:UInt8):(ofM L f k).length≤(idsM L).length:=Nat.le_trans (List.length_filter_le _ _) (by unfold vertsM;rw [List.length_map];exact Nat.le_refl _)
attribute [local irreducible] ofM aliveM namesM idsM
theorem nof_any(b:Nat)(L:List PatchM)(file:VidM)(w:World)(hg:GrIs w b L)(hw:WfG L)(hil:(idsM L).length≤1000000) :
  Calls Tryz.prog 79 #[.pointer (some ⟨b,0,none⟩),vidV file] w (OwnRes encVert 9 101 w (namesM L file)):=by
 have HF:=Lh (anw w (cV file) 74);have HB:=Lh (bnew (w:=w) (.cells (cV file) 74));have HG:=Lh hg;have HW:=Lh hw;have HQ:=Lh (aliveM_q L file);have hol:=ofM_len L file 2;have HE:=Lh (fun(out:List VertM) (hp:out.Perm (aliveM L file)) hs=>names_eq (wf_len hw) file hp hs);clear hg hw;unfold vidV;go_enter Tryz.func79,Tryz.ntmps79;go_upto_region 1 with fail;generalize w.alloc (.cells (cV file) 74)=w0 at *;obtain⟨c0,c1,c2,sc⟩:=HF.o.c3;go_wp2_with fail;refine(gof_any b L file 2 _ (HG.o.over HB.o) HW.o hil).mono ?_;rintro e w1 ⟨v1,rfl,ho1,hb1⟩;have HB1:=Lh (bvo HB.o hb1);have HV1:Hid (∀ k,v1.ownBlock=some k→w.heap.size≤k):=fun k hk=>Nat.le_trans HB.o.size (gown_base ho1 hk);have HO1:=Lh ho1;clear hb1 ho1;go_wp2_with fail;refine(delete_any HO1.o (by omega)).mono ?_;rintro e w2 ⟨v2,rfl,ho2,hg2⟩;rw [HQ.o] at ho2;have HB2:=Lh (HB1.o.grown hg2 HB1.o.size HV1.o);have HO2:=Lh (ho2.base HB.o.size);have hal:(aliveM L file).length≤1000000:=by rw [← HQ.o];exact Nat.le_trans (List.length_filter_le _ _) (by omega)
 clear ho2 hg2 HV1;rcases own_cases HO2.o with⟨h0,p,c,rfl⟩|⟨hne,g,cap,rfl,hA⟩
 · have HN:Hid (([]:List VertM)=namesM L file):=HE.o [] (by rw [h0]) List.Pairwise.nil;go_wp2_with fail;refine(sortVert_none _ _ _ _).mono ?_;rintro e w3 ⟨rfl,hw3⟩;obtain rfl:=hw3.symm;go_wp2;go_ret;exact⟨_,rfl,(by rw [← HN.o,← h0];exact HO2.o),HB2.o⟩
 have HAt:=Lh hA;clear hA;go_wp2_with fail;refine(sortLater_any HAt.o (by omega)).mono ?_;rintro e w3 ⟨rfl,ys,hp,hs,hA3,hg3⟩;have HN:=Lh (HE.o ys hp (hs.imp fun h=>by simpa using h));have hyl:=hp.length_eq;have HO3:Hid (GOwn encVert 9 101 w3 w.heap.size (.slice (some ⟨g,0,none⟩) (aliveM L file).length cap) ys):=by show World.ownsRow _ _ _ _ _ _ _;rw [hyl];exact hA3.own
 have HG3:=Lh hg3;clear hp hs hA3 hg3 hyl;go_wp2;go_ret;exact⟨_,rfl,(by rw [← HN.o];exact HO3.o),HB2.o.grown HG3.o HB2.o.size fun k hk=>by cases hk;exact HAt.o.base⟩
end Go.Proofs.YtjccmcgglfncdaaGreatDoor
namespace Go.Proofs.YtjccmcgglfncdaaGreatDoor
open Go Go.RowKit
variable{want:List ByteArray}{ks:List Int}{kl ops:List OpM}{l:List VertM}{at':List VidM}{B c from' gA gK j m:Nat}{p:Option Addr}{id:PidM}{e:TypeId}{file:VidM}{w w0 wr:World}
theorem vids_cells(n:Nat):(madeCells #[.int .u8 0,.int .u16 0,.int .u8 0] (n*3)).toList=(List.replicate n noVid).flatMap encVid:=by
 refine List.ext_getElem? fun k => ?_
 by_cases hk:k<n*3
 ·
  have h2:=flat_get encVid_len (List.replicate n noVid) (k / 3) (k % 3) noVid (by rw [List.getElem?_replicate,if_pos (by omega)]) (by omega);rw [show k / 3*3+k % 3=k by omega] at h2;rw [h2];unfold madeCells;have h3:k % 3=0∨k % 3=1∨k % 3=2:=by omega
  rcases h3 with h3|h3|h3 <;> simp [h3,hk] <;> rfl
 rw [List.getElem?_eq_none (by simp [madeCells];omega),List.getElem?_eq_none (by rw [flat_len encVid_len];simp;omega)]
theorem own_fullN{g n sz:Nat}{xs:List Value}(h:w.ownsRow B e sz (.slice (some ⟨g,0,none⟩) n n) n xs):ArrT w g e xs∧B≤g:=by
 obtain⟨h1,h2⟩:=h;rcases h2 with⟨hv,_⟩|⟨g',cap,cur,hv,hb,hg,hnc,hm,hs,ht⟩
 · cases hv
 cases hv
 have:cur.toList=xs:=by rw [← ht,List.take_of_length_le (by simp;omega)]
 refine⟨?_,hb⟩;unfold ArrT;rw [hg,← this]
def atL(at':List VidM)(j m:Nat):List VidM:=at'++List.replicate (m - j) noVid
theorem atL_zero(m:Nat):atL [] 0 m=List.replicate m noVid:=rfl
theorem atL_set(ha:at'.length=j)(hj:j<m)(v:VidM):(atL at' j m).set j v=atL (at'++[v]) (j+1) m:=by unfold atL;rw [List.set_append_right _ _ (by omega),ha,Nat.sub_self,show m - j=(m - (j+1))+1 by omega,List.replicate_succ,List.set_cons_zero,List.append_assoc];rfl
theorem atL_len(ha:at'.length=j)(hj:j≤m):(atL at' j m).length=m:=by unfold atL;rw [List.length_append,ha,List.length_replicate];omega
theorem atL_all:atL at' m m=at':=by unfold atL;rw [Nat.sub_self];simp
theorem oown_form{v:Value}{xs:List OpM}(h:GOwn encOp 8 e w B v xs):∃ p c,v=.slice p xs.length c:=by obtain⟨a,cap,e1,_⟩:=h.row.at encOp_len;exact⟨a,cap,e1⟩
theorem oown_more{v:Value}{xs ys:List OpM}{o:OpM}(h:GOwn encOp 8 e w B v (xs++[o]))(hy:ys=xs++[o]):∃(p:Option Addr) (c:Nat),v=.slice p ys.length c∧GOwn encOp 8 e w B v ys:=by subst hy;obtain⟨p,c,e⟩:=oown_form h;exact⟨p,c,e,h⟩
structure MidE (wr:World) (w0:World) (gK gA m j:Nat) (ks:List Int) (p:Option Addr) (c:Nat) (ops:List OpM) (at':List VidM):Prop where
 kept:ArrT wr gK 3 (keptV1 ks)
 names:ArrT wr gA 74 ((atL at' j m).flatMap encVid)
 own:GOwn encOp 8 76 wr w0.heap.size (.slice p ops.length c) ops
 below:Be w0 wr
theorem MidE.over{w2:World}(h:MidE wr w0 gK gA m j ks p c ops at')(hb:Be wr w2):MidE w2 w0 gK gA m j ks p c ops at':=
 ⟨h.kept.over hb,h.names.over hb,h.own.over hb,bvo h.below hb⟩
section
variable {P : Program} {ty : TypeId} {size : Nat} {w : World} {ops : Array Oper} {rest : List Oper} {o : Oper} {a : Act} {Q : Exit → Act → World → Prop}
theorem wpList_store_arrN(T:RowT P ty size)(hgd:o.guard=none)(x y:Operand)(ho:o.op=.store ty x y){sz g n:Nat}{cs:List Value}(hA:ArrT w g e cs)(hl:cs.length=n*sz)(hm:n≤maxLen)(k:Nat)(new:List Value)
  (hx:a.eval x=.pointer (some ⟨g,k,none⟩)) (hy:a.eval y=.agg new.toArray) (hn:new.length=size) (hk:k+new.length≤n*sz) (h1:∀ u∈new,u.oneCell'=true)
  (h:∀ w',ArrT w' g e (cs.take k++new++cs.drop (k+new.length))→w.grownBy w' (some g)→wpList P ops Q rest (a.put o.dst undef) w'):wpList P ops Q (o :: rest) a w:=
 wpList_store_own T hgd x y ho (B:=g) (e:=e) (sz:=sz) (n:=n) (cap:=n) (xs:=cs) ⟨⟨[],by rw [List.append_nil];exact hA,by rw [List.append_nil];exact hl⟩,hl,Nat.le_refl _,Nat.le_refl _,hm⟩ k new hx hy hn hk h1 fun w' hO hg _=>h w' (own_fullN hO.own).1 hg
end
theorem vids_put{l:List VidM}{v:VidM}(h:j<l.length):(l.flatMap encVid).take (j*3)++encVid v++(l.flatMap encVid).drop (j*3+(encVid v).length)=(l.set j v).flatMap encVid:=by rw [flat_set encVid_len l j v h,show(j+1)*3=j*3+(encVid v).length by rw [encVid_len];omega]
theorem MidE.name{w':World}(h:MidE wr w0 gK gA m j ks p c ops at')(ha:at'.length=j)(hj:j<m)(hg:w0.heap.size≤gA)(hne:gK≠gA){v:VidM}
  (hA:ArrT w' gA 74 (((atL at' j m).flatMap encVid).take (j*3)++encVid v++((atL at' j m).flatMap encVid).drop (j*3+(encVid v).length))) (hgr:wr.grownBy w' (some gA)):MidE w' w0 gK gA m (j+1) ks p c ops (at'++[v]):=by rw [vids_put (by rw [atL_len ha (Nat.le_of_lt hj)];exact hj),atL_set ha hj] at hA;exact⟨h.kept.kept hgr (fun e=>hne (Option.some.inj e)),hA,own_kept h.own hgr (h.names.ne h.own (by decide)),h.below.grown hgr h.below.size fun q hq=>by cases hq;exact hg⟩
theorem atL_flat(ha:at'.length=j)(hj:j≤m):((atL at' j m).flatMap encVid).length=m*3:=by rw [flat_len encVid_len,atL_len ha hj]
theorem MidE.op{w9:World}{p9:Option Addr}{c9:Nat}{ops9:List OpM}(h:MidE wr w0 gK gA m j ks p c ops at')(ho:GOwn encOp 8 76 w9 w0.heap.size (.slice p9 ops9.length c9) ops9)(hg:wr.grownBy w9 (Value.slice p ops.length c).ownBlock) :
  MidE w9 w0 gK gA m j ks p9 c9 ops9 at':=
 ⟨h.kept.kept hg (h.kept.ne h.own (by decide)),h.names.kept hg (h.names.ne h.own (by decide)),ho,bgr h.below h.below.size h.own hg⟩
def A1Rel(w0:World)(l:List VertM)(file:VidM)(id:PidM)(from':Nat)(ks:List Int)(want:List ByteArray)(kl:List OpM)(gK gA m:Nat)(v12 v30:Value)(wr:World):Prop:=
 ∃(j:Nat) (ops:List OpM) (at':List VidM) (p:Option Addr) (c:Nat),j≤m∧v30=.int .i64 j∧v12=.slice p ops.length c∧Hid ((ops,at')=addsTo l file id from' ks want kl j)∧Hid (MidE wr w0 gK gA m j ks p c ops at')
def A2Rel(w0:World)(R:List (Nat × Nat))(ks:List Int)(at':List VidM)(ops0:List OpM)(gK gA m:Nat)(v12 v69:Value)(wr:World):Prop:=
 ∃(j:Nat) (ops:List OpM) (p:Option Addr) (c:Nat),j≤m∧v69=.int .i64 j∧v12=.slice p ops.length c∧Hid (ops=ops0++tiesTo R ks at' j)∧Hid (MidE wr w0 gK gA m m ks p c ops at')
theorem rowVidE:RowT Tryz.prog 74 3:=rowT_of Tryz.underlying74 rfl (by kernel_rfl)
theorem slVidE:SlT Tryz.prog 148 74 3 6:=slT_of Tryz.underlying148 (by kernel_rfl) (by decide)
attribute [local irreducible] keptV1 keptTo textAt firmX aliveX killsE addsTo tiesTo atL
theorem adds_both(hl:ks.length=want.length)(hj:j≤want.length)(h:(ops,at')=addsTo l file id from' ks want kl j):at'.length=j∧ops.length≤kl.length+j:=by have h1:=adds_len2 (l:=l) (file:=file) (id:=id) (from':=from') (ks:=kl) hl j hj;have h2:=adds_len1 (l:=l) (file:=file) (id:=id) (from':=from') (kept:=ks) (want:=want) (ks:=kl) j;rw [← h] at h1 h2;exact⟨h1,h2⟩
theorem adds_next1{i:Nat}{t:ByteArray}{x:VertM}(hk:ks[j]? = some (i:Int))(ht:want[j]? = some t)(hx:l[i]? = some x)(h:(ops,at')=addsTo l file id from' ks want kl j) :
  (ops,at'++[x.id])=addsTo l file id from' ks want kl (j+1):=by rw [adds_yes hk ht,← h,getD_of hx]
theorem adds_next2{t:ByteArray}(hk:ks[j]? = some (-1))(ht:want[j]? = some t)(h:(ops,at')=addsTo l file id from' ks want kl j) :
  (ops++[⟨3,file,noVid,t⟩],at'++[⟨id,UInt8.ofNat (from'+ops.length)⟩])=addsTo l file id from' ks want kl (j+1):=by rw [adds_no hk ht,← h]
end Go.Proofs.YtjccmcgglfncdaaGreatDoor
namespace Go.Proofs.YtjccmcgglfncdaaGreatDoor
open Go Go.RowKit
section
variable{α:Type}
theorem putS_lenF{key:α→Nat}(x:α):∀ r:List α,(putS key x r).length≤r.length+1
 | []=>by simp [putS]
 | y :: r=>by
  have:=putS_lenF (key:=key) x r;rw [putS];split
  · simp
  split
  · simp
  simp only [List.length_cons];omega
theorem setS_few{key:α→Nat}(l:List α):(setS key l).length≤l.length:=by
 have:∀(l out:List α),(l.foldl (fun out x=>putS key x out) out).length≤out.length+l.length:=by
  intro l;induction l with
  | nil=>intro out;simp
  | cons x l ih =>intro out;have h1:=ih (putS key x out);have h2:=putS_lenF (key:=key) x out;rw [List.foldl_cons,List.length_cons];omega
 have:=this l [];simpa [setS] using this
theorem flat_few{β:Type}(f:α→List β)(b:Nat):∀ l:List α,(∀ x∈l,(f x).length≤b)→(l.flatMap f).length≤b*l.length
 | [],_=>by simp
 | x :: l,h=>by have h1:=h x (List.mem_cons_self ..);have h2:=flat_few f b l fun y hy=>h y (List.mem_cons_of_mem _ hy);rw [List.flatMap_cons,List.length_append,List.length_cons,Nat.mul_succ];omega
theorem idsOf_few(L:List PatchM)(b:Nat)(h:∀ p∈L,p.ops.length≤b):(idsOf L).length≤b*L.length:=by refine flat_few _ b L fun p hp=>Nat.le_trans (List.length_filterMap_le _ _) ?_;rw [List.length_range];exact h p hp
theorem edgesOf_few(L:List PatchM)(b:Nat)(h:∀ p∈L,p.ops.length≤b):(edgesOf L).length≤b*L.length:=
 flat_few _ b L fun p hp=>Nat.le_trans (List.length_filterMap_le _ _) (h p hp)
end
theorem pairsF_self(a:List ByteArray):∀ f i,a.length≤f+i→i≤a.length→pairsF a a f i i=(List.range (a.length - i)).map fun k=>(i+k,i+k)
 | 0,i,h,hi=>by rw [pairsF_end (by omega),show a.length - i=0 by omega];rfl
 | f+1,i,h,hi=>by
  rcases Nat.lt_or_ge i a.length with h1|h1
  · have hx:a[i]? = some a[i]:=List.getElem?_eq_getElem h1;rw [pairsF_eq hx hx rfl,pairsF_self a f (i+1) (by omega) (by omega),show a.length - i=a.length - (i+1)+1 by omega,List.range_succ_eq_map,List.map_cons,List.map_map];congr 1;refine List.map_congr_left fun k _ => ?_;show(i+1+k,i+1+k)=(i+(k+1),i+(k+1));rw [show i+1+k=i+(k+1) by omega]
  rw [pairsF_end (by omega),show a.length - i=0 by omega];rfl
theorem pairs_self(a:List ByteArray):pairs a a=(List.range a.length).map fun k=>(k,k):=by unfold pairs;rw [pairsF_self a _ 0 (by omega) (by omega)];refine List.map_congr_left fun k _ => ?_;rw [Nat.zero_add]
theorem adds_noE(l:List VertM)(file:VidM)(id:PidM)(from':Nat):∀(xs:List (Int × ByteArray)) (s:List OpM × List VidM),(∀ x∈xs,0≤x.1)→(xs.foldl (stepA l file id from') s).1=s.1
 | [],s,_=>rfl
 | x :: xs,s,h=>by rw [List.foldl_cons,adds_noE l file id from' xs _ fun y hy=>h y (List.mem_cons_of_mem _ hy)];unfold stepA;rw [if_pos (h x (List.mem_cons_self ..))]
section
variable{R:List (Nat × Nat)}{l:List Nat}{i j k:Nat}
inductive BlkM where
 | mk (kind num:Int) (subs:List BlkM)
def lineB(i:Nat):BlkM:=.mk 1 i []
noncomputable def cutB(R:List (Nat × Nat))(l:List Nat)(k:Nat):Bool:=(l.take k).all fun i=>(l.drop k).all fun j=>befB R i j
noncomputable def nearB(R:List (Nat × Nat))(i j:Nat):Bool:=leadB R i j || leadB R j i
theorem nearB_comm(R:List (Nat × Nat))(i j:Nat):nearB R i j=nearB R j i:=Bool.or_comm ..
inductive Near (R:List (Nat × Nat)) (l:List Nat):Nat→Nat→Prop
 | self {i:Nat}:i<l.length→Near R l i i
 | more {i k j:Nat}:Near R l i k→j<l.length→nearB R (l.getD k 0) (l.getD j 0)=true→Near R l i j
theorem Near.left(h:Near R l i j):i<l.length:=by
 induction h with
 | self h=>exact h
 | more _ _ _ ih=>exact ih
theorem Near.right(h:Near R l i j):j<l.length:=by
 cases h with
 | self h=>exact h
 | more _ h _=>exact h
theorem Near.trans(h:Near R l i k)(h':Near R l k j):Near R l i j:=by
 induction h' with
 | self _=>exact h
 | more _ h2 h3 ih=>exact .more ih h2 h3
theorem Near.symm(h:Near R l i j):Near R l j i:=by
 induction h with
 | self h=>exact .self h
 | @more k j h1 h2 h3 ih =>have:Near R l j k:=.more (.self h2) h1.right (by rw [nearB_comm];exact h3);exact this.trans ih
open Classical in
noncomputable def nearD(R:List (Nat × Nat))(l:List Nat)(i j:Nat):Bool:=decide (Near R l i j)
theorem nearD_iff:nearD R l i j=true↔Near R l i j:=by unfold nearD;simp
noncomputable def sideM(R:List (Nat × Nat))(l:List Nat)(i:Nat):List Nat:=(List.range l.length).filter (nearD R l i)
theorem mem_sideM:k∈sideM R l i↔Near R l i k:=by unfold sideM;rw [List.mem_filter,List.mem_range,nearD_iff];exact⟨And.right,fun h=>⟨h.right,h⟩⟩
noncomputable def headB(R:List (Nat × Nat))(l:List Nat)(i:Nat):Bool:=(List.range i).all fun k => !nearD R l k i
noncomputable def headsM(R:List (Nat × Nat))(l:List Nat)(n:Nat):List Nat:=(List.range n).filter (headB R l)
noncomputable def sidesM(R:List (Nat × Nat))(l:List Nat):List (List Nat):=(headsM R l l.length).map (sideM R l)
theorem headB_iff:headB R l i=true↔∀ k,k<i→¬ Near R l k i:=by
 unfold headB;rw [List.all_eq_true];exact⟨fun h k hk hn=>by have:=h k (List.mem_range.2 hk);rw [nearD_iff.2 hn] at this;exact absurd this (by decide),fun h k hk=>by
  have:=h k (List.mem_range.1 hk);cases e:nearD R l k i with
  | false=>rfl
  | true=>exact absurd (nearD_iff.1 e) this⟩
theorem heads_succ(R:List (Nat × Nat))(l:List Nat)(n:Nat):headsM R l (n+1)=headsM R l n++if headB R l n=true then [n] else []:=by unfold headsM;rw [List.range_succ,List.filter_append];cases h:headB R l n <;> simp [h]
noncomputable def piecesTo(R:List (Nat × Nat))(l:List Nat):Nat→List (List Nat) × Nat
 | 0=>([],0)
 | k+1=>let s:=piecesTo R l k;if k+1=l.length∨cutB R l (k+1)=true then(s.1++[(l.take (k+1)).drop s.2],k+1) else s
noncomputable def piecesM(R:List (Nat × Nat))(l:List Nat):List (List Nat):=(piecesTo R l l.length).1
theorem pieces_at(R:List (Nat × Nat))(l:List Nat):∀ k,(piecesTo R l k).2≤k
 | 0=>Nat.le_refl _
 | k+1=>by
  have:=pieces_at R l k;unfold piecesTo;simp only;split
  · exact Nat.le_refl _
  omega
noncomputable def thingsM(l:List Nat)(s:List Nat):List Nat:=s.map fun k=>l.getD k 0
noncomputable def pieceM(R:List (Nat × Nat))(ofF:List Nat→List BlkM)(l:List Nat):BlkM:=
 if l.length=1 then lineB (l.getD 0 0) else if(sidesM R l).length=1 then .mk 3 0 (l.map lineB) else .mk 2 0 ((sidesM R l).map fun s=>.mk 4 0 (ofF (thingsM l s)))
noncomputable def blkM(R:List (Nat × Nat)):Nat→List Nat→List BlkM
 | 0,_=>[]
 | f+1,l=>(piecesM R l).map (pieceM R (blkM R f))
theorem side_few:(sideM R l i).length≤l.length:=by unfold sideM;exact Nat.le_trans (List.length_filter_le _ _) (by rw [List.length_range];exact Nat.le_refl _)
theorem side_all(h:(sideM R l i).length=l.length)(hk:k<l.length):Near R l i k:=by unfold sideM at h;have h2:(List.range l.length).filter (nearD R l i)=List.range l.length:=(List.filter_sublist ..).eq_of_length (by rw [h,List.length_range]);have:=List.filter_eq_self.1 h2 k (List.mem_range.2 hk);exact nearD_iff.1 this
theorem sides_less(h:(sidesM R l).length≠1){s:List Nat}(hs:s∈sidesM R l):s.length<l.length:=by
 unfold sidesM at hs h;obtain⟨i,hi,rfl⟩:=List.mem_map.1 hs;rw [List.length_map] at h;unfold headsM at hi h;obtain⟨hi1,hi2⟩:=List.mem_filter.1 hi;have hi1:=List.mem_range.1 hi1;refine Nat.lt_of_le_of_ne side_few fun e=>h ?_;have h0:i=0:=by
  rcases Nat.eq_zero_or_pos i with h0|h0
  · exact h0
  exact absurd (side_all e (by omega:0<l.length)).symm (headB_iff.1 hi2 0 h0)
 subst h0;have:(List.range l.length).filter (headB R l)=[0]:=by
  have hm:∀ k,k∈(List.range l.length).filter (headB R l)↔k=0:=by
   intro k;rw [List.mem_filter,List.mem_range];constructor
   ·
    rintro⟨hk,hb⟩;rcases Nat.eq_zero_or_pos k with h0|h0
    · exact h0
    exact absurd (side_all e hk) (headB_iff.1 hb 0 h0)
   rintro rfl;exact⟨hi1,hi2⟩
  have hp:((List.range l.length).filter (headB R l)).Pairwise (· < ·):=(List.pairwise_lt_range).filter _
  match hq:(List.range l.length).filter (headB R l) with
  | []=>have:=(hm 0).2 rfl;rw [hq] at this;exact absurd this (List.not_mem_nil)
  | [x]=>rw [(hm x).1 (by rw [hq];exact List.mem_singleton.2 rfl)]
  | x :: y :: r =>have h1:=(hm x).1 (by rw [hq];exact List.mem_cons_self ..);have h2:=(hm y).1 (by rw [hq];exact List.mem_cons_of_mem _ (List.mem_cons_self ..));rw [hq,h1,h2] at hp;exact absurd ((List.pairwise_cons.1 hp).1 0 (List.mem_cons_self ..)) (Nat.lt_irrefl 0)
 rw [this];rfl
end
variable{R:List (Nat × Nat)}{l:List Nat}{n:Nat}
def CtRel(R:List (Nat × Nat))(l:List Nat)(n:Nat)(w:World)(v:Value)(wr:World):Prop:=∃ k:Nat,k≤n∧v=.int .i64 k∧Hid (∀ i x:Nat,i<k→l[i]? = some x→∀ y∈l.drop n,befB R x y=true)∧wr=w
def Ct2Rel(R:List (Nat × Nat))(l:List Nat)(n x:Nat)(w:World)(v:Value)(wr:World):Prop:=∃ k:Nat,k≤l.length - n∧v=.int .i64 k∧Hid (∀ j y:Nat,j<k→l[n+j]? = some y→befB R x y=true)∧wr=w
theorem cut_yes(hn:n≤l.length)(h:∀ i x:Nat,i<n→l[i]? = some x→∀ y∈l.drop n,befB R x y=true):cutB R l n=true:=by unfold cutB;rw [List.all_eq_true];intro x hx;obtain⟨i,hi⟩:=List.getElem?_of_mem hx;have hi1:=(List.getElem?_eq_some_iff.1 hi).1;rw [List.length_take] at hi1;rw [List.getElem?_take,if_pos (by omega)] at hi;rw [List.all_eq_true];exact h i x (by omega) hi
theorem cut_no{i j x y:Nat}(hi:i<n)(hx:l[i]? = some x)(hy:l[n+j]? = some y)(h:befB R x y=false):cutB R l n=false:=by unfold cutB;rw [List.all_eq_false];refine⟨x,List.mem_of_getElem? (i:=i) (by rw [List.getElem?_take,if_pos hi];exact hx),?_⟩;rw [Bool.not_eq_true,List.all_eq_false];exact⟨y,List.mem_of_getElem? (i:=j) (by rw [List.getElem?_drop];exact hy),by rw [h];decide⟩
theorem ct_next{k x:Nat}(h:∀ i x:Nat,i<k→l[i]? = some x→∀ y∈l.drop n,befB R x y=true)(hx:l[k]? = some x)(h2:∀ j y:Nat,j<l.length - n→l[n+j]? = some y→befB R x y=true) :
  ∀ i x:Nat,i<k+1→l[i]? = some x→∀ y∈l.drop n,befB R x y=true:=by
 intro i z hi hz y hy;rcases Nat.lt_or_ge i k with h1|h1
 · exact h i z h1 hz y hy
 obtain rfl:i=k:=by omega
 rw [hx] at hz;cases hz
 obtain⟨j,hj⟩:=List.getElem?_of_mem hy;have hj1:=(List.getElem?_eq_some_iff.1 hj).1;rw [List.length_drop] at hj1;rw [List.getElem?_drop] at hj;exact h2 j y hj1 hj
attribute [local irreducible] cutB befB
theorem bcut_any(r n:Nat)(R:List (Nat × Nat))(v:Value)(l:List Nat)(k:Nat)(w:World)(h:RelAt w r n R)(hv:GRow encI 1 w v l)(hl:∀ i∈l,i≤1000000)(hk:k<l.length) :
  Calls Tryz.prog 186 #[.pointer (some ⟨r,0,none⟩),v,.int .i64 k] w fun e w'=>e=.returned (.bool (cutB R l k))∧w'=w:=by
 obtain⟨a,cap,rfl,h1,h2,hc⟩:=irow_at hv;unfold maxLen at h2;obtain⟨b,off,rfl,sb,hcb⟩:=hc.resolve_left (by omega);have HC:=Lh hcb;have HR:=Lh h;have HL:=Lh hl;clear hv hcb h hl hc;go_enter Tryz.func186,Tryz.ntmps186;go_wp2;go_loopw [15] (fun v15 wr=>CtRel R l k w v15 wr) (fun v15 _=>k - (intOf v15).toNat)
 case atStart=>exact⟨0,by omega,rfl,Lh (fun i x hi=>absurd hi (by omega)),rfl⟩
 obtain⟨i,hi,rfl,HK,hw⟩:=hrel;obtain rfl:=hw.symm
 by_cases hlt:i<k
 rotate_left
 ·
  obtain rfl:i=k:=by omega
  have HN:=Lh (cut_yes (by omega) HK.o);go_wp2;go_ret;exact⟨rvb HN.o,rfl⟩
 obtain⟨x,hx⟩:=gol (xs:=l) (i:=i) (by omega);have x0:=(HC.o i x hx _ (Below.refl _ _)).2;have HX:=Lh hx;have hxl:=HL.o x (List.mem_of_getElem? hx);clear hx;go_wp2;go_loopw [23] (fun v23 wr=>Ct2Rel R l k x w v23 wr) (fun v23 _=>l.length - k - (intOf v23).toNat)
 case atStart=>exact⟨0,by omega,rfl,Lh (fun i x hi=>absurd hi (by omega)),rfl⟩
 obtain⟨j,hj,rfl,HJ,hw⟩:=hrel;obtain rfl:=hw.symm
 by_cases hlt2:j<l.length - k
 rotate_left
 ·
  obtain rfl:j=l.length - k:=by omega
  have HK2:=Lh (ct_next HK.o HX.o HJ.o);go_wp2;go_roundw
  case rel=>exact⟨i+1,by omega,by go_num,HK2,(by first|exact rfl|trivial)⟩
  simp [intOf];omega
 obtain⟨y,hy⟩:=gol (xs:=l) (i:=k+j) (by omega);have y0:=(HC.o (k+j) y hy _ (Below.refl _ _)).2;have HY:=Lh hy;have hyl:=HL.o y (List.mem_of_getElem? hy);have y1:w.cell? ⟨b,off+k+j,none⟩=some (.int .i64 y):=by rw [Nat.add_assoc];exact y0
 clear hy y0;cases hf:befB R x y with
 | true =>
  have HF:=Lh hf;have HJ2:Hid (∀ i z:Nat,i<j+1→l[k+i]? = some z→befB R x z=true):=Lh fun i z hi hz=>by
   rcases Nat.lt_or_ge i j with h1|h1
   · exact HJ.o i z h1 hz
   obtain rfl:i=j:=(by omega);rw [HY.o] at hz;cases hz;exact HF.o
  clear hf;go_wp2_with fail;refine(rchBefore_any r n x y R _ HR.o hxl hyl).mono ?_;rw [HF.o];rintro e w1 ⟨rfl,hw⟩;obtain rfl:=hw.symm;go_wp2;go_roundw
  case rel=>exact⟨j+1,by omega,by go_num,HJ2,(by first|exact rfl|trivial)⟩
  simp [intOf];omega
 | false =>have HF:=Lh hf;have HN:=Lh (cut_no hlt HX.o HY.o hf);clear hf;go_wp2_with fail;refine(rchBefore_any r n x y R _ HR.o hxl hyl).mono ?_;rw [HF.o];rintro e w1 ⟨rfl,hw⟩;obtain rfl:=hw.symm;go_wp2;go_ret;exact⟨rvb HN.o,rfl⟩
end Go.Proofs.YtjccmcgglfncdaaGreatDoor
set_option maxRecDepth 100000
set_option maxHeartbeats 40000000
namespace Go.Proofs.YtjccmcgglfncdaaGreatDoor
open Go Go.RowKit
variable{A:Nat→Prop}{w w':World}
inductive BlL where
 | mk (kind num:Int) (sv:Value) (subs:List BlL)
def encBl:BlL→List Value
 | .mk k n sv _=>[.int .i64 k,.int .i64 n,sv]
theorem encBl_len(x:BlL):(encBl x).length=3:=by cases x;rfl
mutual
def bareB:BlL→BlkM
 | .mk k n _ s=>.mk k n (bareL s)
def bareL:List BlL→List BlkM
 | []=>[]
 | b :: l=>bareB b :: bareL l
end
theorem bareL_map:∀ l:List BlL,bareL l=l.map bareB
 | []=>by unfold bareL;rfl
 | b :: l=>by unfold bareL;rw [bareL_map l];rfl
mutual
def BIn(A:Nat→Prop)(w:World):BlL→Prop
 | .mk _ _ sv s=>GRow encBl 3 w sv s∧sv.oneCell'=true∧(∀ b,sv.ownBlock=some b→A b)∧BIns A w s
def BIns(A:Nat→Prop)(w:World):List BlL→Prop
 | []=>True
 | b :: l=>BIn A w b∧BIns A w l
end
theorem bin_mk{k n:Int}{sv:Value}{s:List BlL}:BIn A w (.mk k n sv s)↔(GRow encBl 3 w sv s∧sv.oneCell'=true∧(∀ b,sv.ownBlock=some b→A b)∧BIns A w s):=by unfold BIn;exact Iff.rfl
theorem bins_nil:BIns A w []:=by unfold BIns;trivial
mutual
theorem BIn.mono{A':Nat→Prop}(hA:∀ b,A b→A' b)(hr:∀(v:Value) (xs:List BlL),(∀ b,v.ownBlock=some b→A b)→GRow encBl 3 w v xs→GRow encBl 3 w' v xs):∀ x:BlL,BIn A w x→BIn A' w' x
 | .mk k n sv s,h=>by unfold BIn at h ⊢;exact⟨hr sv s h.2.2.1 h.1,h.2.1,fun b hb=>hA b (h.2.2.1 b hb),BIns.mono hA hr s h.2.2.2⟩
theorem BIns.mono{A':Nat→Prop}(hA:∀ b,A b→A' b)(hr:∀(v:Value) (xs:List BlL),(∀ b,v.ownBlock=some b→A b)→GRow encBl 3 w v xs→GRow encBl 3 w' v xs):∀ l:List BlL,BIns A w l→BIns A' w' l
 | [],_=>by unfold BIns;trivial
 | b :: l,h=>by unfold BIns at h ⊢;exact⟨BIn.mono hA hr b h.1,BIns.mono hA hr l h.2⟩
end
theorem BIns.over{l:List BlL}(h:BIns A w l)(hb:Be w w'):BIns A w' l:=BIns.mono (fun _ h=>h) (fun _ _ _ h=>h.over hb) l h
theorem BIn.over{x:BlL}(h:BIn A w x)(hb:Be w w'):BIn A w' x:=BIn.mono (fun _ h=>h) (fun _ _ _ h=>h.over hb) x h
theorem bins_append:∀ {l m:List BlL},BIns A w l→BIns A w m→BIns A w (l++m)
 | [],m,_,h=>h
 | b :: l,m,h,h'=>by rw [List.cons_append];unfold BIns at h ⊢;exact⟨h.1,bins_append h.2 h'⟩
theorem bins_one{x:BlL}(h:BIn A w x):BIns A w [x]:=by unfold BIns;exact⟨h,by unfold BIns;trivial⟩
def lineL(i:Nat):BlL:=.mk 1 i (.slice none 0 0) []
theorem lineL_bare(i:Nat):bareB (lineL i)=lineB i:=by unfold lineL lineB bareB bareL;rfl
theorem lineL_in(A:Nat→Prop)(w:World)(i:Nat):BIn A w (lineL i):=by exact bin_mk.2 ⟨grow_nil w,rfl,fun b hb=>(by cases hb),bins_nil⟩
theorem lines_in(A:Nat→Prop)(w:World):∀ l:List Nat,BIns A w (l.map lineL)
 | []=>by rw [List.map_nil];unfold BIns;trivial
 | i :: l=>by rw [List.map_cons];unfold BIns;exact⟨lineL_in A w i,lines_in A w l⟩
theorem lines_bare(l:List Nat):bareL (l.map lineL)=l.map lineB:=by rw [bareL_map,List.map_map];exact List.map_congr_left fun i _=>lineL_bare i
theorem slBlk:SlT Tryz.prog 189 251 3 40:=slT_of Tryz.underlying189 (by kernel_rfl) (by decide)
def SmRel(w:World)(l:List Nat)(v3 v8:Value)(wr:World):Prop:=∃ k:Nat,k≤l.length∧v8=.int .i64 k∧Hid (GOwn encBl 3 251 wr w.heap.size v3 ((l.take k).map lineL))∧Hid (Be w wr)
theorem sm_succ{l:List Nat}{k i:Nat}(h:l[k]? = some i):(l.take (k+1)).map lineL=(l.take k).map lineL++[lineL i]:=by rw [take_one h,List.map_append];rfl
theorem bsome_any(v:Value)(l:List Nat)(w:World)(hv:GRow encI 1 w v l)(hn:l.length≤1000000):Calls Tryz.prog 248 #[v] w (OwnRes encBl 3 251 w (l.map lineL)):=by
 obtain⟨a,cap,rfl,h1,h2,hc⟩:=irow_at hv;unfold maxLen at h2;have HC:=Lh hc;clear hv hc;go_enter Tryz.func248,Tryz.ntmps248;go_wp2;go_loopw [3,8] (fun v3 v8 wr=>SmRel w l v3 v8 wr) (fun _ v8 _=>l.length - (intOf v8).toNat)
 case atStart=>exact⟨0,by omega,rfl,Lh (gown_nil _ _),Below.refl _ _⟩
 obtain⟨k,hk,rfl,HM,hbl⟩:=hrel;rename World=>wr
 by_cases hlt:k<l.length
 ·
  obtain⟨b,off,rfl,sb,hcb⟩:=HC.o.resolve_left (by omega);obtain⟨i,hi⟩:=gol hlt;obtain⟨sx,x0⟩:=hcb k i hi _ hbl.o;have HSu:=Lh (sm_succ hi);have hN:((l.take k).map lineL).length+1≤1099511627776:=by rw [List.length_map,List.length_take];omega
  have hB3:=hbl.o.size;clear hcb hi;go_wp2_with (at_builtin;refine apD slBlk rfl _ _ rfl w.heap.size _ _ (drf _) 1 _ _ _ HM.o rfl rfl rfl rfl hN (by decide) hB3 ?_;intro v9 w9 ho9 hg9);go_roundw
  case rel=>exact⟨k+1,hlt,by go_num,(by show GOwn _ _ _ _ _ _ _;rw [HSu.o];exact GOwn.snoc ho9),bgr hbl.o hB3 HM.o hg9⟩
  simp [intOf];omega
 obtain rfl:k=l.length:=by omega
 have HE:=HM.o;rw [List.take_length] at HE;have HE2:=Lh HE;clear HE;go_wp2;go_ret;exact⟨_,rfl,HE2.o,hbl.o⟩
end Go.Proofs.YtjccmcgglfncdaaGreatDoor
namespace Go.Proofs.YtjccmcgglfncdaaGreatDoor
open Go Go.RowKit
variable{s:List Nat}{at' i k u:Nat}
variable {R : List (Nat × Nat)} {l : List Nat}
noncomputable def seenB(R:List (Nat × Nat))(l:List Nat)(m k:Nat):Bool:=(headsM R l m).any fun h=>nearD R l h k
theorem seenB_iff{m:Nat}:seenB R l m k=true↔∃ h,h∈headsM R l m∧Near R l h k:=by unfold seenB;rw [List.any_eq_true];exact⟨fun⟨h,h1,h2⟩=>⟨h,h1,nearD_iff.1 h2⟩,fun⟨h,h1,h2⟩=>⟨h,h1,nearD_iff.2 h2⟩⟩
theorem mem_heads{m h:Nat}:h∈headsM R l m↔h<m∧headB R l h=true:=by unfold headsM;rw [List.mem_filter,List.mem_range]
theorem least_near:∀(m k i:Nat),k≤m→Near R l k i→∃ h,h≤k∧headB R l h=true∧Near R l h i
 | 0,k,i,hk,hn=>⟨k,Nat.le_refl _,headB_iff.2 (fun q hq=>absurd hq (by omega)),hn⟩
 | m+1,k,i,hk,hn=>by
  cases hh:headB R l k with
  | true=>exact⟨k,Nat.le_refl _,hh,hn⟩
  | false =>
   have:¬ ∀ q,q<k→¬ Near R l q k:=fun h=>by rw [headB_iff.2 h] at hh;cases hh
   obtain⟨q,hq⟩:=Classical.not_forall.1 this;obtain⟨hq1,hq2⟩:=Classical.not_imp.1 hq;obtain⟨h,h1,h2,h3⟩:=least_near m q i (by omega) ((Classical.not_not.1 hq2).trans hn);exact⟨h,by omega,h2,h3⟩
theorem seen_head:seenB R l i i = !headB R l i:=by
 cases hh:headB R l i with
 | true =>
  have:seenB R l i i=false:=by rw [Bool.eq_false_iff];intro hs;obtain⟨h,h1,h2⟩:=seenB_iff.1 hs;exact headB_iff.1 hh h (mem_heads.1 h1).1 h2
  rw [this];rfl
 | false =>
  have:¬ ∀ q,q<i→¬ Near R l q i:=fun h=>by rw [headB_iff.2 h] at hh;cases hh
  obtain⟨q,hq⟩:=Classical.not_forall.1 this;obtain⟨hq1,hq2⟩:=Classical.not_imp.1 hq;obtain⟨h,h1,h2,h3⟩:=least_near q q i (Nat.le_refl _) (Classical.not_not.1 hq2);rw [seenB_iff.2 ⟨h,mem_heads.2 ⟨by omega,h2⟩,h3⟩];rfl
theorem head_new(hi:headB R l i=true)(hk:Near R l i k):seenB R l i k=false:=by rw [Bool.eq_false_iff];intro hs;obtain⟨h,h1,h2⟩:=seenB_iff.1 hs;exact headB_iff.1 hi h (mem_heads.1 h1).1 (h2.trans hk.symm)
theorem seen_next_no(hi:headB R l i=false):seenB R l (i+1)=seenB R l i:=by funext k;unfold seenB;rw [heads_succ,hi];simp
theorem seen_next_yes(hi:headB R l i=true)(k:Nat):seenB R l (i+1) k=(seenB R l i k || nearD R l i k):=by unfold seenB;rw [heads_succ,hi];simp
structure Sd (R:List (Nat × Nat)) (l:List Nat) (i at' k:Nat) (s:List Nat):Prop where
 nodup:s.Nodup
 near:∀ x∈s,Near R l i x
 self:i∈s
 done:∀ a x,a<at'→s[a]? = some x→∀ j,j<l.length→nearB R (l.getD x 0) (l.getD j 0)=true→j∈s
 cur:∀ x,s[at']? = some x→∀ j,j<k→nearB R (l.getD x 0) (l.getD j 0)=true→j∈s
theorem sd_start(hi:i<l.length):Sd R l i 0 0 [i]:=
 ⟨List.nodup_cons.2 ⟨List.not_mem_nil,List.nodup_nil⟩,fun x hx=>by rw [List.mem_singleton.1 hx];exact .self hi,List.mem_singleton.2 rfl,fun a x ha=>absurd ha (by omega),fun x _ j hj=>absurd hj (by omega)⟩
theorem sd_yes(h:Sd R l i at' k s)(hu:s[at']? = some u)(hn:nearB R (l.getD u 0) (l.getD k 0)=true)(hk:k<l.length)(hs:k ∉ s):Sd R l i at' (k+1) (s++[k]):=by
 have hat:=(List.getElem?_eq_some_iff.1 hu).1;refine⟨List.nodup_append.2 ⟨h.nodup,List.nodup_cons.2 ⟨List.not_mem_nil,List.nodup_nil⟩,fun a ha b hb e=>hs (by rw [← List.mem_singleton.1 hb,← e];exact ha)⟩,fun x hx => ?_,List.mem_append_left _ h.self,fun a x ha hx j hj hn' => ?_,fun x hx j hj hn' => ?_⟩
 ·
  rcases List.mem_append.1 hx with hx|hx
  · exact h.near x hx
  rw [List.mem_singleton.1 hx];exact .more (h.near u (List.mem_of_getElem? hu)) hk hn
 · rw [List.getElem?_append_left (by omega)] at hx;exact List.mem_append_left _ (h.done a x ha hx j hj hn')
 rw [List.getElem?_append_left hat] at hx;rcases Nat.lt_or_ge j k with h1|h1
 · exact List.mem_append_left _ (h.cur x hx j h1 hn')
 obtain rfl:j=k:=by omega
 exact List.mem_append_right _ (List.mem_singleton.2 rfl)
theorem sd_no(h:Sd R l i at' k s)(hu:s[at']? = some u)(hn:nearB R (l.getD u 0) (l.getD k 0)=false∨k∈s):Sd R l i at' (k+1) s:=by
 refine⟨h.nodup,h.near,h.self,h.done,fun x hx j hj hn' => ?_⟩;rcases Nat.lt_or_ge j k with h1|h1
 · exact h.cur x hx j h1 hn'
 obtain rfl:j=k:=by omega
 rw [hu] at hx;cases hx
 rcases hn with h2|h2
 · rw [h2] at hn';cases hn'
 exact h2
theorem sd_next(h:Sd R l i at' l.length s):Sd R l i (at'+1) 0 s:=by
 refine⟨h.nodup,h.near,h.self,fun a x ha hx j hj hn => ?_,fun x _ j hj=>absurd hj (by omega)⟩;rcases Nat.lt_or_ge a at' with h1|h1
 · exact h.done a x h1 hx j hj hn
 obtain rfl:a=at':=by omega
 exact h.cur x hx j hj hn
theorem sd_end(h:Sd R l i s.length k s)(x:Nat):x∈s↔Near R l i x:=by
 refine⟨h.near x,fun hn => ?_⟩;induction hn with
 | self _=>exact h.self
 | @more k j h1 h2 h3 ih =>obtain⟨a,ha⟩:=List.getElem?_of_mem ih;exact h.done a k (List.getElem?_eq_some_iff.1 ha).1 ha j h2 h3
theorem sd_len(h:Sd R l i at' k s):s.length≤l.length:=by
 have:=nodup_lenN (m:=List.range l.length) h.nodup fun x hx=>List.mem_range.2 (h.near x hx).right
 rwa [List.length_range] at this
noncomputable def markB(R:List (Nat × Nat))(l:List Nat)(i:Nat)(s:List Nat)(k:Nat):Bool:=seenB R l i k || s.contains k
theorem mark_end(hi:headB R l i=true)(h:Sd R l i s.length k s)(q:Nat):markB R l i s q=seenB R l (i+1) q:=by unfold markB;rw [seen_next_yes hi];congr 1;rw [Bool.eq_iff_iff,List.contains_iff_mem,nearD_iff,sd_end h]
theorem mark_snoc(q:Nat):markB R l i (s++[k]) q=if q=k then true else markB R l i s q:=by
 unfold markB
 by_cases h:q=k
 · subst h;rw [if_pos rfl];simp
 rw [if_neg h];congr 1;rw [Bool.eq_iff_iff,List.contains_iff_mem,List.contains_iff_mem,List.mem_append,List.mem_singleton];exact⟨fun e=>e.resolve_right h,.inl⟩
theorem mark_not{q:Nat}(hi:headB R l i=true)(h:Sd R l i at' k s)(hu:s[at']? = some u)(hq:q<l.length)(hn:nearB R (l.getD u 0) (l.getD q 0)=true):markB R l i s q=s.contains q:=by unfold markB;rw [head_new hi (.more (h.near u (List.mem_of_getElem? hu)) hq hn),Bool.false_or]
end Go.Proofs.YtjccmcgglfncdaaGreatDoor
