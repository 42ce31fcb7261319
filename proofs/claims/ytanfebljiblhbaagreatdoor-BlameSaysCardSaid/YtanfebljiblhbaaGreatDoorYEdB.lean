/- Part of the proof that of any graph each file's lines, whose they are, and how many lines any author has, are as the document says. No conditions. -/
import Derived.Test.YtanfebljiblhbaaGreatDoorYLinB
import Derived.Test.YtanfebljiblhbaaGreatDoorYRefP
set_option linter.unusedVariables false
set_option linter.unusedSimpArgs false
set_option maxRecDepth 100000
set_option maxHeartbeats 40000000
namespace Go.Proofs.YtanfebljiblhbaaGreatDoor
open Go Go.RowKit
section
variable{xs:List Nat}{l:List VertM}{w:World}
structure ShLook (w:World) (s:Nat) (l:List VertM) (R:List (Nat × Nat)) (lp:Option Addr) (lc r:Nat) (op:Option Addr) (oc:Nat):Prop where
 arr:Arr w s [.slice lp l.length lc,.pointer (some ⟨r,0,none⟩),.slice op l.length oc]
 row:GRow encVert 9 w (.slice lp l.length lc) l
 rel:RelAt w r l.length R
 ord:GRow encI 1 w (.slice op l.length oc) (orderM R l.length)
theorem ShAt.look{s:Nat}{R:List (Nat × Nat)}(h:ShAt w s l R):∃ lp lc r op oc,ShLook w s l R lp lc r op oc:=by obtain⟨lp,lc,r,op,oc,h1,h2,h3,h4⟩:=h;exact⟨lp,lc,r,op,oc,h1,h2,h3,h4⟩
attribute [local irreducible] orderM
def ShRow(w:World)(s:Nat)(l:List VertM):Prop:=∃ lp lc v1 v2,Arr w s [.slice lp l.length lc,v1,v2]∧GRow encVert 9 w (.slice lp l.length lc) l
theorem ShRow.over{w':World}{s:Nat}(h:ShRow w s l)(hb:Be w w'):ShRow w' s l:=by obtain⟨lp,lc,v1,v2,h1,h2⟩:=h;exact⟨lp,lc,v1,v2,h1.over hb,h2.over hb⟩
theorem slenR_any(s:Nat)(l:List VertM)(w:World)(h:ShRow w s l):Calls Tryz.prog 163 #[.pointer (some ⟨s,0,none⟩)] w fun e w'=>e=.returned (.int .i64 l.length)∧w'=w:=by obtain⟨lp,lc,v1,v2,hL,_⟩:=h;obtain⟨s0,ss⟩:=hL.c1;clear hL;go_enter Tryz.func163,Tryz.ntmps163;go_wp2;go_ret;exact⟨rfl,rfl⟩
theorem srel_any(s:Nat)(l:List VertM)(R:List (Nat × Nat))(w:World)(h:ShAt w s l R):Calls Tryz.prog 54 #[.pointer (some ⟨s,0,none⟩)] w fun e w'=>(∃ r,e=.returned (.pointer (some ⟨r,0,none⟩))∧RelAt w r l.length R)∧w'=w:=by obtain⟨lp,lc,r,op,oc,hL⟩:=h.look;have s1:=hL.arr.k 1 rfl;have ss:=hL.arr.lt;have HR:=Lh hL.rel;clear h hL;go_enter Tryz.func54,Tryz.ntmps54;go_wp2;go_ret;exact⟨⟨r,rfl,HR.o⟩,rfl⟩
def SvRes(w:World)(x:VertM)(e:Ending)(w':World):Prop:=e=.returned (.tuple #[vertV x,.bool true])∧Be w w'
theorem svres_mk{w':World}{x:VertM}(h:Be w w'):SvRes w x (.returned (.tuple #[vertV x,.bool true])) w':=⟨rfl,h⟩
theorem svertR_any(s i:Nat)(x:VertM)(l:List VertM)(w:World)(h:ShRow w s l)(hx:l[i]? = some x):Calls Tryz.prog 103 #[.pointer (some ⟨s,0,none⟩),.int .i64 i] w (SvRes w x):=by
 have hi:=(List.getElem?_eq_some_iff.1 hx).1;have HH:=Lh (h.over (bnew (w:=w) (.cells #[.int .u8 0,.int .u16 0,.int .u8 0,.int .u8 0,.int .u8 0,.int .u16 0,.int .u8 0,.string ⟨#[]⟩,.bool false] 86)));have HR:=Lh (anw w #[.int .u8 0,.int .u16 0,.int .u8 0,.int .u8 0,.int .u8 0,.int .u16 0,.int .u8 0,.string ⟨#[]⟩,.bool false] 86);have HB:=Lh (bnew (w:=w) (.cells #[.int .u8 0,.int .u16 0,.int .u8 0,.int .u8 0,.int .u8 0,.int .u16 0,.int .u8 0,.string ⟨#[]⟩,.bool false] 86));have d1:decide ((l.length:Int)≤(i:Int))=false:=by simp;omega
 have d2:decide (l.length≤i)=false:=by simp;omega
 have HX:=Lh hx;clear h hx;go_enter Tryz.func103,Tryz.ntmps103;go_upto_region 1 with fail;generalize w.alloc (.cells #[.int .u8 0,.int .u16 0,.int .u8 0,.int .u8 0,.int .u8 0,.int .u16 0,.int .u8 0,.string ⟨#[]⟩,.bool false] 86)=w0 at *;go_wp2_with fail;refine(slenR_any s l _ HH.o).mono ?_;rintro e w1 ⟨rfl,hw⟩;obtain rfl:=hw.symm;obtain⟨lp,lc,v1,v2,hL,hL2⟩:=HH.o;obtain⟨s0,ss⟩:=hL.c1;obtain⟨a,cap,e1,z1,z2,hc⟩:=hL2.at encVert_len;cases e1
 obtain⟨b,off,rfl,sb,hcb⟩:=hc.resolve_left (by omega);have HRx:=Lh (hcb i x HX.o w0 (Below.refl _ _));obtain⟨x0,x1,x2,x3,x4,x5,x6,x7,x8,sx⟩:=rc9 HRx.o;unfold maxLen at z2;clear hcb hc hL hL2;go_wp2_with ((with_reducible show wpList _ _ _ ({dst:=_,op:=.store _ _ _,type:=_,pos:=_,after:=_,guard:=_} :: _) _ _);refine wpList_store_arr rowVert rfl _ _ rfl _ _ (encVert x) HR.o rfl rfl rfl rfl rfl ?_);exact bodyPost_ret (v:=.tuple #[vertV x,.bool true]) (rasl rowVert rfl (HR.o.row (encVert x)) rfl rfl rfl) rfl (svres_mk (below_setRow HB.o (Nat.le_refl _) _))
theorem iclone_any(v:Value)(xs:List Nat)(w:World)(hv:GRow encI 1 w v xs)(hl:xs.length≤1000000):Calls Tryz.prog 139 #[v] w (OwnRes encI 1 3 w xs):=by
 obtain⟨a,cap,rfl,h1,h2,hc⟩:=irow_at hv;unfold maxLen at h2;cases a with
 | none =>
  have h0:xs=[]:=by
   rcases hc with h0|⟨b,off,e,_⟩
   · exact List.eq_nil_of_length_eq_zero h0
   · cases e
  have HX:=Lh h0;have hl0:xs.length=0:=by rw [h0];rfl
  have hkn:=fun w=>Lib.run_eql_slice_nil (P:=Tryz.prog) w 89 3 none 0 cap 0 0 Tryz.underlying89;clear hv hc h0;go_enter Tryz.func139,Tryz.ntmps139;go_wp2;go_ret;exact⟨_,rfl,(by rw [HX.o];exact gown_nil _ _),Below.refl _ _⟩
 | some p =>
  have HV:=Lh hv;have hN:0+xs.length≤1099511627776:=by omega
  have hkn:=fun w=>Lib.run_eql_slice_nil (P:=Tryz.prog) w 89 3 (some p) xs.length cap 0 0 Tryz.underlying89;clear hv hc;go_enter Tryz.func139,Tryz.ntmps139;go_wp2_with (at_builtin;refine wpList_append_old slIntI rfl _ _ rfl w.heap.size (.slice (some ⟨w.heap.size,0,none⟩) 0 0) 0 [] (own_lit0 w _ 1 w.heap.size (Nat.le_refl _)) rfl (.slice (some p) xs.length cap) xs.length (xs.flatMap encI) (HV.o.over (bnew _)) rfl (oneInts xs) hN (by decide) (by simp) ?_;intro v9 w9 ho9 hg9;have HO9:=Lh (show GOwn encI 1 3 w9 w.heap.size v9 xs by(have:=ho9;rw [Nat.zero_add,List.nil_append] at this;exact this));have HB9:=Lh (bgr (bnew (w:=w) (.cells #[] 3)) (by simp) (own_lit0 w 3 1 w.heap.size (Nat.le_refl _)) hg9);clear ho9 hg9);go_ret;exact⟨_,rfl,HO9.o,HB9.o⟩
theorem sorder_any(s:Nat)(l:List VertM)(R:List (Nat × Nat))(w:World)(h:ShAt w s l R)(hl:l.length≤65536):Calls Tryz.prog 82 #[.pointer (some ⟨s,0,none⟩)] w (OwnRes encI 1 3 w (orderM R l.length)):=by
 obtain⟨lp,lc,r,op,oc,hL⟩:=h.look;have s2:=hL.arr.k 2 rfl;have ss:=hL.arr.lt;have HO:=Lh hL.ord;have hol:(orderM R l.length).length≤1000000:=by rw [orderM_len];omega
 clear h hL;go_enter Tryz.func82,Tryz.ntmps82;go_wp2_with fail;refine(iclone_any _ _ _ HO.o hol).mono ?_;rintro e w1 ⟨v,rfl,ho,hb⟩;have HO1:=Lh ho;have HB1:=Lh hb;clear ho hb;go_wp2;go_ret;exact⟨_,rfl,HO1.o,HB1.o⟩
def deadQL(l:List VertM)(i:Nat):Bool:=deadLine l i
def aliveQL(l:List VertM)(i:Nat):Bool := !deadLine l i
theorem deadQL_at{i:Nat}{x:VertM}(h:l[i]? = some x):deadQL l i=x.dead:=by unfold deadQL deadLine;rw [h]
def keptI(l:List VertM)(xs:List Nat)(j:Nat):List Nat:=(xs.take j).filter (aliveQL l)
theorem keptI_yes{j u:Nat}(h:xs[j]? = some u)(hd:deadQL l u=false):keptI l xs (j+1)=keptI l xs j++[u]:=by unfold keptI;rw [take_one h,List.filter_append];unfold deadQL at hd;simp [aliveQL,hd]
theorem keptI_no{j u:Nat}(h:xs[j]? = some u)(hd:deadQL l u=true):keptI l xs (j+1)=keptI l xs j:=by unfold keptI;rw [take_one h,List.filter_append];unfold deadQL at hd;simp [aliveQL,hd]
theorem keptI_all(l:List VertM)(xs:List Nat):keptI l xs xs.length=xs.filter (aliveQL l):=by unfold keptI;rw [List.take_length]
theorem idxI_cases(l:List VertM)(xs:List Nat):(idxB (deadQL l) xs = -1∧xs.filter (aliveQL l)=xs)∨∃ k u,k<xs.length∧idxB (deadQL l) xs=(k:Int)∧xs[k]? = some u∧deadQL l u=true∧keptI l xs k=xs.take k:=by
 unfold idxB;cases h:xs.findIdx? (deadQL l) with
 | none =>rw [List.findIdx?_eq_none_iff] at h;exact .inl ⟨rfl,List.filter_eq_self.2 fun x hx=>by have:=h x hx;unfold deadQL at this;simp [aliveQL,this]⟩
 | some k =>rw [List.findIdx?_eq_some_iff_getElem] at h;obtain⟨hk,h1,h2⟩:=h;refine .inr ⟨k,xs[k],hk,rfl,List.getElem?_eq_getElem hk,h1,?_⟩;unfold keptI;refine List.filter_eq_self.2 fun x hx => ?_;obtain⟨j,hj,rfl⟩:=List.mem_iff_getElem.1 hx;rw [List.length_take] at hj;rw [List.getElem_take];have:=h2 j (by omega);unfold deadQL at this;simp [aliveQL];simpa using this
theorem ints_map(xs:List Nat):xs.flatMap encI=xs.map fun x:Nat=>Value.int .i64 x:=by
 induction xs with
 | nil=>rfl
 | cons x xs ih=>rw [List.flatMap_cons,ih];rfl
theorem ints_set(xs:List Nat)(k x:Nat):(xs.flatMap encI).set k (.int .i64 x)=(xs.set k x).flatMap encI:=by rw [ints_map,ints_map,List.map_set]
theorem ints_len(xs:List Nat):(xs.flatMap encI).length=xs.length:=by rw [ints_map,List.length_map]
theorem ints_get{k x:Nat}(h:xs[k]? = some x):(xs.flatMap encI)[k]? = some (.int .i64 x):=by rw [ints_map,List.getElem?_map,h];rfl
attribute [local irreducible] idxB deadQL aliveQL keptI
theorem aliveFn_any(c s i:Nat)(x:VertM)(l:List VertM)(R:List (Nat × Nat))(w:World)(hc:Arr w c [.pointer (some ⟨s,0,none⟩)])(h:ShAt w s l R)(hx:l[i]? = some x) :
  Calls Tryz.prog 83 #[.int .i64 i,.pointer (some ⟨c,0,none⟩)] w fun e w'=>e=.returned (.bool (deadQL l i))∧w'=w:=by
 have hi:=(List.getElem?_eq_some_iff.1 hx).1;have HV:=Lh (deadQL_at hx);obtain⟨lp,lc,r,op,oc,hL⟩:=h.look;obtain⟨c0,sc⟩:=hc.c1;obtain⟨s0,ss⟩:=hL.arr.c1;obtain⟨a,cap,e1,z1,z2,hcl⟩:=hL.row.at encVert_len;cases e1
 obtain⟨b,off,rfl,sb,hcb⟩:=hcl.resolve_left (by omega);unfold maxLen at z2;have x8:w.cell? ⟨b,off+i*9+8,none⟩=some (.bool x.dead):=(hcb i x hx w (Below.refl _ _)).2 8 _ rfl;clear h hL hcl hcb hx hc;go_enter Tryz.func83,Tryz.ntmps83;go_wp2;go_ret;exact⟨rvb HV.o,rfl⟩
theorem idxAl_any(v:Value)(xs:List Nat)(c s:Nat)(l:List VertM)(R:List (Nat × Nat))(w:World)(hv:GRow encI 1 w v xs)(hc:Arr w c [.pointer (some ⟨s,0,none⟩)])(h:ShAt w s l R)(hx:∀ i∈xs,i<l.length) :
  Calls Tryz.prog 138 #[v,.func (.func 83) #[] #[.pointer (some ⟨c,0,none⟩)]] w fun e w'=>e=.returned (.int .i64 (idxB (deadQL l) xs))∧w'=w:=by
 obtain⟨a,cap,rfl,h1,h2,hcr⟩:=irow_at hv;unfold maxLen at h2;have HC:=Lh hcr;have HS:=Lh h;have HA:=Lh hc;have HX:=Lh hx;clear hv hcr h hc hx;go_enter Tryz.func138,Tryz.ntmps138;go_wp2;go_loopw [8] (fun v8 wr=>∃ k:Nat,k≤xs.length∧v8=.int .i64 k∧Hid ((xs.take k).any (deadQL l)=false)∧wr=w) (fun v8 _=>xs.length - (intOf v8).toNat)
 case atStart=>exact⟨0,by omega,rfl,(by show _=_;simp),rfl⟩
 obtain⟨k,hk,rfl,HK,hw⟩:=hrel;obtain rfl:=hw
 by_cases hlt:k<xs.length
 rotate_left
 ·
  obtain rfl:k=xs.length:=by omega
  have HI:=Lh (idx_miss HK.o);go_wp2;go_ret;exact⟨ret_int HI.o.symm,rfl⟩
 obtain⟨b,off,rfl,sb,hcb⟩:=HC.o.resolve_left (by omega);obtain⟨u,hu⟩:=gol hlt;have u0:=(hcb k u hu _ (Below.refl _ _)).2;have HU:=Lh hu;obtain⟨x,hxu⟩:=gol (HX.o u (List.mem_of_getElem? hu));have HXu:=Lh hxu;clear hcb hu hxu;cases hf:deadQL l u with
 | true =>have HI:=Lh (idx_hit HK.o HU.o (f:=deadQL l) hf);have HV:=Lh hf;clear hf;go_wp2_with fail;refine(aliveFn_any c s u x l R _ HA.o HS.o HXu.o).mono ?_;rintro e w1 ⟨rfl,hw⟩;obtain rfl:=hw.symm;rw [HV.o];go_wp2;go_ret;exact⟨ret_int HI.o.symm,rfl⟩
 | false =>
  have HI:=Lh (any_step HK.o HU.o (f:=deadQL l) hf);have HV:=Lh hf;clear hf;go_wp2_with fail;refine(aliveFn_any c s u x l R _ HA.o HS.o HXu.o).mono ?_;rintro e w1 ⟨rfl,hw⟩;obtain rfl:=hw.symm;rw [HV.o];go_wp2;go_roundw
  case rel=>exact⟨k+1,hlt,by go_num,HI,(by first|exact rfl|trivial)⟩
  simp [intOf];omega
def DelIRes(w:World)(B:Nat)(v:Value)(l:List VertM)(xs:List Nat)(e:Ending)(w':World):Prop:=∃ v',e=.returned v'∧GOwn encI 1 3 w' B v' (xs.filter (aliveQL l))∧w.grownBy w' v.ownBlock
def DelIRel(w:World)(B g cap:Nat)(l:List VertM)(xs:List Nat)(v5 v6:Value)(wr:World):Prop:=
 ∃(m j:Nat) (zs:List Nat),j≤xs.length∧m<j∧v5=.int .i64 m∧v6=.int .i64 j∧zs.length=xs.length∧Hid (zs.take m=keptI l xs j)∧Hid (∀ i,j≤i→zs[i]? = xs[i]?) ∧
  Hid (OwnAt wr B 3 1 g xs.length cap (zs.flatMap encI))∧Hid (w.grownBy wr (some g))
theorem zero_intI:((Tryz.prog.info? 3).bind (·.zero))=some (.int .i64 0):=by kernel_rfl
theorem delAl_any{B:Nat}{v:Value}(c s:Nat)(l:List VertM)(R:List (Nat × Nat))(h:GOwn encI 1 3 w B v xs)(hn:xs.length≤1000000)(hc:Arr w c [.pointer (some ⟨s,0,none⟩)])(hS:ShAt w s l R)(hx:∀ i∈xs,i<l.length)
  (hne:∀ w',w.grownBy w' v.ownBlock→Arr w' c [.pointer (some ⟨s,0,none⟩)]∧ShAt w' s l R) :
  Calls Tryz.prog 81 #[v,.func (.func 83) #[] #[.pointer (some ⟨c,0,none⟩)]] w (DelIRes w B v l xs):=by
 have HO:=Lh h;have hcon:=idxAl_any v xs c s l R w h.row hc hS hx;have HX:=Lh hx;have HNE:=Lh hne;rcases idxI_cases l xs with⟨hi,hf⟩|⟨k0,u0,hk0,hi,hu0,hd0,hkp⟩
 · rw [hi] at hcon;have HF:=Lh hf;clear h hi hf hc hS hx hne;go_enter Tryz.func81,Tryz.ntmps81;go_wp2_with fail;refine hcon.mono ?_;rintro e w1 ⟨rfl,hw⟩;obtain rfl:=hw.symm;clear hcon;go_wp2;go_ret;exact⟨_,rfl,(by rw [HF.o];exact HO.o),World.grownBy.refl _ _⟩
 rw [hi] at hcon;obtain⟨g,cap,rfl,hA⟩:=own_at (show World.ownsRow _ _ _ _ _ _ _ from h) (by omega);have HA:=Lh hA;have hnc:=hA.nc;have hcm:=hA.cm;unfold maxLen at hcm;have hg:=hA.lt;have HK0:Hid (xs.take k0=keptI l xs (k0+1)):=by show _=_;rw [keptI_no hu0 hd0,hkp]
 clear h hi hA hu0 hd0 hkp hc hS hx hne;go_enter Tryz.func81,Tryz.ntmps81;go_wp2_with fail;refine hcon.mono ?_;rintro e w1 ⟨rfl,hw⟩;obtain rfl:=hw.symm;have d0:((k0:Int) == -1)=false:=by simp <;> omega
 clear hcon;go_wp2;go_loopw [5,6] (fun v5 v6 wr=>DelIRel w B g cap l xs v5 v6 wr) (fun _ v6 _=>xs.length - (intOf v6).toNat)
 case atStart=>exact⟨k0,k0+1,xs,hk0,Nat.lt_succ_self _,rfl,by go_num,rfl,HK0,Lh (fun _ _=>rfl),HA,World.grownBy.refl _ _⟩
 obtain⟨m,j,zs,hj,hm,rfl,rfl,hz,HT,HJ,HI,HG⟩:=hrel;rename World=>wr;have sI:=HI.o.lt;have HNr:=Lh (HNE.o wr HG.o)
 by_cases hlt:j<xs.length
 rotate_left
 ·
  obtain rfl:j=xs.length:=by omega
  have HE:Hid (zs.take m=xs.filter (aliveQL l)):=by show _=_;rw [HT.o,keptI_all]
  have hlen:(xs.filter (aliveQL l)).length=m:=by rw [← HE.o,List.length_take];omega
  have HL:=Lh hlen;have HTk:=Lh (HI.o.take (k:=m) (by omega));have hcm2:¬ cap=m:=by omega
  have HF:Hid ((zs.flatMap encI).take (m*1)=(xs.filter (aliveQL l)).flatMap encI):=by show _=_;rw [← HE.o,Nat.mul_one,ints_map,ints_map,List.map_take]
  clear hlen;go_wp2_with (refine wpList_clear_at slIntI _ zero_intI (zero_one (fun u hu=>by simp [Value.cells] at hu;subst hu;rfl)) (fun k=>by rw [size_zeroCells];rfl) rfl _ rfl B g m cap _ HTk.o m _ _ _ (by omega) rfl (Nat.le_refl _) (by omega) ?_;intro w3 hA3 hg3 hs3);go_ret;refine⟨_,rfl,?_,gtr HG.o hg3⟩;show World.ownsRow _ _ _ _ _ _ _;rw [HL.o,← HF.o];exact hA3.own
 obtain⟨u,hu⟩:=gol hlt;have hu2:zs[j]? = some u:=(HJ.o j (Nat.le_refl _)).trans hu;have HU:=Lh hu;have u0:wr.cell? ⟨g,j,none⟩=some (.int .i64 u):=HI.o.cell (ints_get hu2);obtain⟨x,hxu⟩:=gol (HX.o u (List.mem_of_getElem? hu));have HXu:=Lh hxu;clear hu hu2 hxu;cases hf:deadQL l u with
 | true =>
  have HV:=Lh hf;have HK:=Lh (keptI_no HU.o hf);clear hf;go_wp2_with fail;refine(aliveFn_any c s u x l R _ HNr.o.1 HNr.o.2 HXu.o).mono ?_;rintro e w8 ⟨rfl,hw⟩;obtain rfl:=hw.symm;rw [HV.o];go_wp2;go_roundw
  case rel=>exact⟨m,j+1,zs,hlt,by omega,rfl,by go_num,hz,(by show _=_;rw [HK.o];exact HT.o),Lh (fun i hi=>HJ.o i (by omega)),HI,HG⟩
  simp [intOf];omega
 | false =>
  have HV:=Lh hf;have HK:=Lh (keptI_yes HU.o hf);have hml:m<zs.length:=by omega
  obtain⟨y,hy⟩:=gol hml;have m0:wr.cell? ⟨g,m,none⟩=some (.int .i64 y):=HI.o.cell (ints_get hy);have mf:=HI.o.free m;clear hf hy;go_wp2_with fail;refine(aliveFn_any c s u x l R _ HNr.o.1 HNr.o.2 HXu.o).mono ?_;rintro e w8 ⟨rfl,hw⟩;obtain rfl:=hw.symm;rw [HV.o];go_wp2;go_roundw
  case rel=>exact⟨m+1,j+1,zs.set m u,hlt,by omega,by go_num,by go_num,by simpa using hz,(by show _=_;rw [take_set_end hml,HK.o,HT.o]),Lh (fun i hi=>by rw [List.getElem?_set,if_neg (by omega)];exact HJ.o i (by omega)),Lh (by rw [← ints_set];exact HI.o.setCell m (by rw [ints_len];exact hml) _),Lh (gtr HG.o (gsc _ _ _))⟩
  simp [intOf];omega
def SaRes(w:World)(l:List VertM)(R:List (Nat × Nat)):Ending→World→Prop:=OwnRes encI 1 3 w ((orderM R l.length).filter (aliveQL l))
theorem order_lt{R:List (Nat × Nat)}{n i:Nat}(h:i∈orderM R n):i<n:=by unfold orderM at h;exact(orderTo_whole R n n).lt i h
theorem salive_any(s:Nat)(l:List VertM)(R:List (Nat × Nat))(w:World)(h:ShAt w s l R)(hl:l.length≤65536):Calls Tryz.prog 38 #[.pointer (some ⟨s,0,none⟩)] w (SaRes w l R):=by
 have HS:=Lh (h.over (bnew (w:=w) (.cells #[.pointer (some ⟨s,0,none⟩)] 78)));have HC:=Lh (arrT_new w [.pointer (some ⟨s,0,none⟩)] 78);have HB:=Lh (bnew (w:=w) (.cells #[.pointer (some ⟨s,0,none⟩)] 78));have hC:=HC.o;have HC2:=Lh (show Arr (w.alloc (.cells #[.pointer (some ⟨s,0,none⟩)] 78)) w.heap.size [.pointer (some ⟨s,0,none⟩)] from hC.arr);clear h hC HC;go_enter Tryz.func38,Tryz.ntmps38;go_upto_region 1 with fail;generalize w.alloc (.cells #[.pointer (some ⟨s,0,none⟩)] 78)=w0 at *;obtain⟨c0,sc⟩:=HC2.o.c1;go_wp2_with fail;refine(sorder_any s l R _ HS.o hl).mono ?_;rintro e w1 ⟨v,rfl,ho,hb⟩;have HO:=Lh ho;have HB1:=Lh hb;have hol:(orderM R l.length).length≤1000000:=by rw [orderM_len];omega
 have hbk:∀ k,v.ownBlock=some k→w0.heap.size≤k:=fun k hk=>gown_low ho hk;have HBK:=Lh hbk;clear ho hb c0 sc hbk;go_wp2_with fail;refine(delAl_any w.heap.size s l R HO.o hol (HC2.o.over HB1.o) (HS.o.over HB1.o) (fun i hi=>order_lt hi) (fun w' hg => ?_)).mono ?_
 · have hb2:Be w0 w':=HB1.o.grown hg HB1.o.size HBK.o;exact⟨HC2.o.over hb2,HS.o.over hb2⟩
 rintro e w2 ⟨v',rfl,ho2,hg2⟩;have HO2:=Lh (ho2.base HB.o.size);have HB2:=Lh (bvo HB.o (HB1.o.grown hg2 HB1.o.size HBK.o));clear ho2 hg2;go_wp2;go_ret;exact⟨_,rfl,HO2.o,HB2.o⟩
open Classical in
noncomputable def firmB(R:List (Nat × Nat))(n i:Nat):Bool:=decide (FirmP R n i)
attribute [local irreducible] firmB
end
section
noncomputable def aliveX(l:List VertM)(R:List (Nat × Nat)):List Nat:=(orderM R l.length).filter (aliveQL l)
theorem aliveX_lt{l:List VertM}{R:List (Nat × Nat)}{i:Nat}(h:i∈aliveX l R):i<l.length:=order_lt (List.mem_filter.1 h).1
theorem aliveX_len(l:List VertM)(R:List (Nat × Nat)):(aliveX l R).length≤l.length:=by have:=List.length_filter_le (aliveQL l) (orderM R l.length);rw [orderM_len] at this;exact this
noncomputable def firmTo(l:List VertM)(R:List (Nat × Nat))(k:Nat):List Nat:=((aliveX l R).take k).filter (firmB R l.length)
theorem sares_is(w:World)(l:List VertM)(R:List (Nat × Nat)):SaRes w l R=OwnRes encI 1 3 w (aliveX l R):=rfl
attribute [local irreducible] aliveX firmTo firmB
def textAt(l:List VertM)(i:Nat):ByteArray:=(l.getD i noVert).text
attribute [local irreducible] textAt
end
def keptV1(ks:List Int):List Value:=ks.map fun x:Int=>.int .i64 x
theorem slzIntE:SlZ Tryz.prog 89 3 (.int .i64 0) 8:=slZ_of Tryz.underlying89 (by kernel_rfl) rfl
attribute [local irreducible] keptV1 textAt
end Go.Proofs.YtanfebljiblhbaaGreatDoor
