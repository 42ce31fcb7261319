/- What is proved: PlanSays, for every input; of the listed tables the walk needs the powers of ten. -/
import Derived.Test.YtjccmcgglfncdaaGreatDoorPSomeB
import Derived.Test.YtjccmcgglfncdaaGreatDoorPNmA
set_option linter.unusedVariables false
set_option linter.unusedSimpArgs false
set_option maxRecDepth 100000
set_option maxHeartbeats 40000000
namespace Go.Proofs.YtjccmcgglfncdaaGreatDoor
open Go Go.RowKit
variable{xs:List VertM}{B:Nat}
section
variable {P : Program} {ty : TypeId} {size : Nat} {w : World} {ops : Array Oper} {rest : List Oper} {o : Oper} {a : Act} {Q : Exit → Act → World → Prop}
theorem wpList_store_own(T:RowT P ty size)(hgd:o.guard=none)(x y:Operand)(ho:o.op=.store ty x y){e:TypeId}{sz g n cap:Nat}{xs:List Value}(hA:OwnAt w B e sz g n cap xs)(k:Nat)(new:List Value)
  (hx:a.eval x=.pointer (some ⟨g,k,none⟩)) (hy:a.eval y=.agg new.toArray) (hn:new.length=size) (hk:k+new.length≤n*sz) (h1:∀ u∈new,u.oneCell'=true)
  (h:∀ w',OwnAt w' B e sz g n cap (xs.take k++new++xs.drop (k+new.length))→w.grownBy w' (some g)→w'.heap.size=w.heap.size→wpList P ops Q rest (a.put o.dst undef) w'):wpList P ops Q (o :: rest) a w:=by
 refine wpList_plain hgd fun K hK => ?_;obtain⟨d,i,_,_,h3,h4⟩:=T.out;obtain⟨w',hs,r1,r2,r3⟩:=hA.put (P:=P) h1 hk;have hc:(Value.agg new.toArray).cells=new.toArray:=rfl;have hr:(storeVar ty ⟨g,k,none⟩ (.agg new.toArray)).run P w=.ok () w':=by simp [storeVar,sizeOf,typeInfo,h3,h4,hc,hn,hs]
 unfold Oper.wp execOp;simp only [ho,hx,hy,Instr.storeAt,Instr.sureAddr,Sem.run_bind,Sem.run_pure,Result.andThen_ok,hr];exact hK _ _ (h w' r1 r2 r3)
end
theorem oneZ_Vert:∀ u∈((.agg #[.int .u8 0,.int .u16 0,.int .u8 0,.int .u8 0,.int .u8 0,.int .u16 0,.int .u8 0,.string ⟨#[]⟩,.bool false]:Value).cells).toList,u.oneCell'=true:=List.all_eq_true.1 rfl
theorem zero_Vert:((Tryz.prog.info? 101).bind (·.zero))=some (.agg #[.int .u8 0,.int .u16 0,.int .u8 0,.int .u8 0,.int .u8 0,.int .u16 0,.int .u8 0,.string ⟨#[]⟩,.bool false]):=by kernel_rfl
theorem deadFn_any(x:VertM)(w:World):Calls Tryz.prog 139 #[vertV x] w fun e w'=>e=.returned (.bool x.dead)∧Be w w':=by have HX:=Lh (anw w (cX x) 101);have HB:=Lh (bnew (w:=w) (.cells (cX x) 101));unfold vertV;go_enter Tryz.func139,Tryz.ntmps139;go_upto_region 1 with fail;generalize w.alloc (.cells (cX x) 101)=w0 at *;obtain⟨c0,c1,c2,c3,c4,c5,c6,c7,c8,sc⟩:=HX.o.c9;go_wp2;go_ret;exact⟨rfl,HB.o⟩
def deadQ(x:VertM):Bool:=x.dead
def IdRes(w:World)(xs:List VertM)(e:Ending)(w':World):Prop:=e=.returned (.int .i64 (idxB deadQ xs))∧Be w w'
attribute [local irreducible] idxB
theorem idxDead_any(v:Value)(xs:List VertM)(w:World)(hv:GRow encVert 9 w v xs)(hl:xs.length≤1000000) :
  Calls Tryz.prog 213 #[v,.func (.func 139) #[] #[]] w (IdRes w xs):=by
 obtain⟨a,cap,rfl,h1,h2,hc⟩:=hv.at encVert_len;unfold maxLen at h2;have HC:=Lh hc;clear hv hc;go_enter Tryz.func213,Tryz.ntmps213;go_wp2;go_loopw [8] (fun v8 wr=>∃ k:Nat,k≤xs.length∧v8=.int .i64 k∧Hid ((xs.take k).any deadQ=false)∧Be w wr) (fun v8 _=>xs.length - (intOf v8).toNat)
 case atStart=>exact⟨0,by omega,rfl,(by show _=_;simp),Below.refl _ _⟩
 obtain⟨k,hk,rfl,HK,hbl⟩:=hrel;rename World=>wr
 by_cases hlt:k<xs.length
 rotate_left
 ·
  obtain rfl:k=xs.length:=by omega
  have HI:=Lh (idx_miss HK.o);go_wp2;go_ret;exact⟨ret_int HI.o.symm,hbl⟩
 obtain⟨b,off,rfl,sb,hcb⟩:=HC.o.resolve_left (by omega);obtain⟨u,hu⟩:=gol hlt;have HU:=Lh (hcb k u hu wr hbl);obtain⟨u0,u1,u2,u3,u4,u5,u6,u7,u8,su⟩:=rc9 HU.o;have HX:=Lh hu;clear hcb hu;go_wp2_with fail;refine(deadFn_any u _).mono ?_;rintro e w1 ⟨rfl,hb1⟩;have HB1:=Lh (bvo hbl hb1);clear hb1 u0 u1 u2 u3 u4 u5 u6 u7 u8 su;cases hf:u.dead with
 | true =>have HI:=Lh (idx_hit HK.o HX.o (f:=deadQ) hf);clear hf;go_wp2;go_ret;exact⟨ret_int HI.o.symm,HB1.o⟩
 | false =>
  have HI:=Lh (any_step HK.o HX.o (f:=deadQ) hf);clear hf;go_wp2;go_roundw
  case rel=>exact⟨k+1,hlt,by go_num,HI,HB1.o⟩
  simp [intOf];omega
def aliveQ(x:VertM):Bool := !x.dead
def keptV(xs:List VertM)(j:Nat):List VertM:=(xs.take j).filter aliveQ
theorem kept_yes{j:Nat}{u:VertM}(h:xs[j]? = some u)(hd:u.dead=false):keptV xs (j+1)=keptV xs j++[u]:=by unfold keptV;rw [take_succ' h,List.filter_append];simp [aliveQ,hd]
theorem kept_no{j:Nat}{u:VertM}(h:xs[j]? = some u)(hd:u.dead=true):keptV xs (j+1)=keptV xs j:=by unfold keptV;rw [take_succ' h,List.filter_append];simp [aliveQ,hd]
theorem kept_all(xs:List VertM):keptV xs xs.length=xs.filter aliveQ:=by unfold keptV;rw [List.take_length]
theorem idx_cases(xs:List VertM):(idxB deadQ xs = -1∧xs.filter aliveQ=xs)∨∃ k u,k<xs.length∧idxB deadQ xs=(k:Int)∧xs[k]? = some u∧u.dead=true∧keptV xs k=xs.take k:=by
 unfold idxB;cases h:xs.findIdx? deadQ with
 | none =>rw [List.findIdx?_eq_none_iff] at h;exact .inl ⟨rfl,List.filter_eq_self.2 fun x hx=>by have:=h x hx;unfold deadQ at this;simp [aliveQ,this]⟩
 | some k =>rw [List.findIdx?_eq_some_iff_getElem] at h;obtain⟨hk,h1,h2⟩:=h;refine .inr ⟨k,xs[k],hk,rfl,List.getElem?_eq_getElem hk,h1,?_⟩;unfold keptV;refine List.filter_eq_self.2 fun x hx => ?_;obtain⟨j,hj,rfl⟩:=List.mem_iff_getElem.1 hx;rw [List.length_take] at hj;rw [List.getElem_take];have:=h2 j (by omega);unfold deadQ at this;simp [aliveQ];simpa using this
def DelRes(w:World)(B:Nat)(v:Value)(xs:List VertM)(e:Ending)(w':World):Prop:=∃ v',e=.returned v'∧GOwn encVert 9 101 w' B v' (xs.filter aliveQ)∧w.grownBy w' v.ownBlock
def DelRel(w:World)(B g cap:Nat)(xs:List VertM)(v5 v6:Value)(wr:World):Prop:=
 ∃(m j:Nat) (zs:List VertM),j≤xs.length∧m<j∧v5=.int .i64 m∧v6=.int .i64 j∧zs.length=xs.length∧Hid (zs.take m=keptV xs j)∧Hid (∀ i,j≤i→zs[i]? = xs[i]?) ∧
  Hid (OwnAt wr B 101 9 g xs.length cap (zs.flatMap encVert))∧Hid (w.grownBy wr (some g))
attribute [local irreducible] keptV aliveQ
theorem delete_any{w:World}{v:Value}(h:GOwn encVert 9 101 w B v xs)(hn:xs.length≤1000000) :
  Calls Tryz.prog 138 #[v,.func (.func 139) #[] #[]] w (DelRes w B v xs):=by
 have HO:=Lh h;have hcon:=idxDead_any v xs w h.row hn;unfold IdRes at hcon;rcases idx_cases xs with⟨hi,hf⟩|⟨k0,u0,hk0,hi,hu0,hd0,hkp⟩
 · rw [hi] at hcon;have HF:=Lh hf;clear h hi hf;go_enter Tryz.func138,Tryz.ntmps138;go_wp2_with fail;refine hcon.mono ?_;rintro e w1 ⟨rfl,hb1⟩;have HB1:=Lh hb1;clear hcon hb1;go_wp2;go_ret;exact⟨_,rfl,(by rw [HF.o];exact HO.o.over HB1.o),grown_of_below HB1.o⟩
 rw [hi] at hcon;obtain⟨g,cap,rfl,hA⟩:=own_at (show World.ownsRow _ _ _ _ _ _ _ from h) (by omega);have HA:=Lh hA;have hnc:=hA.nc;have hcm:=hA.cm;unfold maxLen at hcm;have hg:=hA.lt;have HK0:Hid (xs.take k0=keptV xs (k0+1)):=by show _=_;rw [kept_no hu0 hd0,hkp]
 clear h hi hA hu0 hd0 hkp;go_enter Tryz.func138,Tryz.ntmps138;go_wp2_with fail;refine hcon.mono ?_;rintro e w1 ⟨rfl,hb1⟩;have HA1:=Lh (HA.o.over hb1);have HG1:=Lh (grown_of_below hb1 (row:=some g));have d0:((k0:Int) == -1)=false:=by simp <;> omega
 clear hcon hb1;go_wp2;go_loopw [5,6] (fun v5 v6 wr=>DelRel w B g cap xs v5 v6 wr) (fun _ v6 _=>xs.length - (intOf v6).toNat)
 case atStart=>exact⟨k0,k0+1,xs,hk0,Nat.lt_succ_self _,rfl,by go_num,rfl,HK0,Lh (fun _ _=>rfl),HA1,HG1⟩
 obtain⟨m,j,zs,hj,hm,rfl,rfl,hz,HT,HJ,HI,HG⟩:=hrel;rename World=>wr;have sI:=HI.o.lt
 by_cases hlt:j<xs.length
 rotate_left
 ·
  obtain rfl:j=xs.length:=by omega
  have HE:Hid (zs.take m=xs.filter aliveQ):=by show _=_;rw [HT.o,kept_all]
  have hlen:(xs.filter aliveQ).length=m:=by rw [← HE.o,List.length_take];omega
  have HL:=Lh hlen;have HTk:=Lh (HI.o.take (k:=m) (by omega));have hcm2:¬ cap=m:=by omega
  have HF:Hid ((zs.flatMap encVert).take (m*9)=(xs.filter aliveQ).flatMap encVert):=by
   show _=_;rw [← HE.o]
   conv=>lhs;rw [← List.take_append_drop m zs,List.flatMap_append]
   have:((zs.take m).flatMap encVert).length=m*9:=(by rw [flat_len encVert_len,List.length_take,Nat.min_eq_left (by omega)]);rw [List.take_append_of_le_length (by omega),List.take_of_length_le (by omega)]
  clear hlen;go_wp2_with (refine wpList_clear_at slVertP _ zero_Vert (zero_one oneZ_Vert) (fun k=>by rw [size_zeroCells];rfl) rfl _ rfl B g m cap _ HTk.o m _ _ _ rfl rfl (Nat.le_refl _) (by omega) ?_;intro w3 hA3 hg3 hs3);go_ret;refine⟨_,rfl,?_,gtr HG.o hg3⟩;show World.ownsRow _ _ _ _ _ _ _;rw [HL.o,← HF.o];exact hA3.own
 obtain⟨u,hu⟩:=gol hlt;have hu2:zs[j]? = some u:=(HJ.o j (Nat.le_refl _)).trans hu;have HU:=Lh hu;have u0:wr.cell? ⟨g,j*9,none⟩=some (.int .u8 u.id.pid.author.toNat):=HI.o.cell ((flat_get encVert_len _ j 0 u hu2 (by decide)).trans rfl);have u1:wr.cell? ⟨g,j*9+1,none⟩=some (.int .u16 u.id.pid.seq.toNat):=HI.o.cell ((flat_get encVert_len _ j 1 u hu2 (by decide)).trans rfl);have u2:wr.cell? ⟨g,j*9+2,none⟩=some (.int .u8 u.id.n.toNat):=HI.o.cell ((flat_get encVert_len _ j 2 u hu2 (by decide)).trans rfl);have u3:wr.cell? ⟨g,j*9+3,none⟩=some (.int .u8 u.kind.toNat):=HI.o.cell ((flat_get encVert_len _ j 3 u hu2 (by decide)).trans rfl);have u4:wr.cell? ⟨g,j*9+4,none⟩=some (.int .u8 u.file.pid.author.toNat):=HI.o.cell ((flat_get encVert_len _ j 4 u hu2 (by decide)).trans rfl);have u5:wr.cell? ⟨g,j*9+5,none⟩=some (.int .u16 u.file.pid.seq.toNat):=HI.o.cell ((flat_get encVert_len _ j 5 u hu2 (by decide)).trans rfl);have u6:wr.cell? ⟨g,j*9+6,none⟩=some (.int .u8 u.file.n.toNat):=HI.o.cell ((flat_get encVert_len _ j 6 u hu2 (by decide)).trans rfl);have u7:wr.cell? ⟨g,j*9+7,none⟩=some (.string u.text):=HI.o.cell ((flat_get encVert_len _ j 7 u hu2 (by decide)).trans rfl);have u8:wr.cell? ⟨g,j*9+8,none⟩=some (.bool u.dead):=HI.o.cell ((flat_get encVert_len _ j 8 u hu2 (by decide)).trans rfl);clear hu hu2;go_upto_region 8 with fail;have HA7:=Lh (anw wr (cX u) 101);have HB7:=Lh (bnew (w:=wr) (.cells (cX u) 101));generalize wr.alloc (.cells (cX u) 101)=w7 at *;clear u0 u1 u2 u3 u4 u5 u6 u7 u8;obtain⟨y0,y1,y2,y3,y4,y5,y6,y7,y8,sy⟩:=HA7.o.c9;go_wp2_with fail;refine(deadFn_any u _).mono ?_;rintro e w8 ⟨rfl,hb8⟩;have HB8:=Lh (bvo HB7.o hb8);have HA8:=Lh (HA7.o.over hb8);have HI8:=Lh (HI.o.over HB8.o);have HG8:=Lh (gtr HG.o (grown_of_below HB8.o (row:=some g)));clear hb8 y0 y1 y2 y3 y4 y5 y6 y7 y8 sy;obtain⟨z0,z1,z2,z3,z4,z5,z6,z7,z8,sz⟩:=HA8.o.c9;cases hf:u.dead with
 | true =>
  have HK:=Lh (kept_no HU.o hf);clear hf;go_wp2;go_roundw
  case rel=>exact⟨m,j+1,zs,hlt,by omega,rfl,by go_num,hz,(by show _=_;rw [HK.o];exact HT.o),Lh (fun i hi=>HJ.o i (by omega)),HI8,HG8⟩
  simp [intOf];omega
 | false =>
  have HK:=Lh (kept_yes HU.o hf);have hml:m<zs.length:=by omega
  have HFs:=Lh (flat_set encVert_len zs m u hml);have hel:=encVert_len u;have hone:=oneVert u;clear hf;go_wp2_with ((with_reducible show wpList _ _ _ ({dst:=_,op:=.store _ _ _,type:=_,pos:=_,after:=_,guard:=_} :: _) _ _);(refine wpList_store_own rowVert rfl _ _ rfl HI8.o (m*9) (encVert u) rfl rfl rfl (by rw [hel];omega) hone ?_);intro w9 hI9 hg9 hs9);have HI9:Hid (OwnAt w9 B 101 9 g xs.length cap ((zs.set m u).flatMap encVert)):=by show OwnAt _ _ _ _ _ _ _ _;rw [HFs.o,show(m+1)*9=m*9+(encVert u).length by rw [hel];omega];exact hI9
  have HG9:=Lh (gtr HG8.o hg9);clear hI9 hg9;go_wp2;go_roundw
  case rel=>exact⟨m+1,j+1,zs.set m u,hlt,by omega,by go_num,by go_num,by simpa using hz,(by show _=_;rw [take_set_end hml,HK.o,HT.o]),Lh (fun i hi=>by rw [List.getElem?_set,if_neg (by omega)];exact HJ.o i (by omega)),HI9,HG9⟩
  simp [intOf];omega
theorem laterCmpG(a b:VertM)(w:World):Calls Tryz.prog 141 #[vertV a,vertV b] w fun e w'=>e=.returned (.int .i64 (cmpLater b.id a.id))∧Grew w w':=by have HA:=Lh ((anw w (cX a) 101).alloc (.cells (cX b) 101));have HC:=Lh (an2 w (.cells (cX a) 101) (cX b) 101);have HB:=Lh (((Grew.refl w).alloc (.cells (cX a) 101)).alloc (.cells (cX b) 101));unfold vertV;go_enter Tryz.func141,Tryz.ntmps141;go_upto_region 1 with fail;generalize (w.alloc (.cells (cX a) 101)).alloc (.cells (cX b) 101)=w0 at *;obtain⟨c0,c1,c2,c3,c4,c5,c6,c7,c8,sc⟩:=HA.o.c9;obtain⟨d0,d1,d2,d3,d4,d5,d6,d7,d8,sd⟩:=HC.o.c9;go_wp2_with fail;refine(vlaterG b.id a.id _).mono ?_;rintro e w1 ⟨rfl,hg⟩;have HG:=Lh (HB.o.trans hg);clear hg;go_wp2;go_ret;exact⟨rfl,HG.o⟩
theorem later_neg(x y:VertM):(cmpLater y.id x.id<0)=(revK x.id<revK y.id):=by have h1:=laterK_lt x.id;have h2:=laterK_lt y.id;unfold cmpLater revK;rw [cmpN_neg];refine propext ⟨fun h => ?_,fun h => ?_⟩ <;> omega
theorem sortLater_any{w:World}{g cap:Nat}(h:OwnAt w B 101 9 g xs.length cap (xs.flatMap encVert))(hn:xs.length≤1000000000) :
  Calls Tryz.prog 140 #[.slice (some ⟨g,0,none⟩) xs.length cap,.func (.func 141) #[] #[]] w (SortRes (fun a b=>cmpLater b.id a.id) encVert 9 101 w B g cap xs):=by have hcon:=sortF_any (P:=Tryz.prog) Tryz.sortVert (k:=9) (enc:=encVert) Tryz.isAgg101 Tryz.sizeOf101 (fun _=>rfl) oneVert (fun a b=>cmpLater b.id a.id) (swo_key (fun x:VertM=>revK x.id) _ later_neg) 141 (enters_of Tryz.func141 (by kernel_rfl) rfl) (fun x y W=>laterCmpG x y W) h (by omega);exact hcon
theorem aliveM_q(L:List PatchM)(f:VidM):(ofM L f 2).filter aliveQ=aliveM L f:=by unfold aliveQ;rfl
theorem ofM_len(L:List PatchM)(f:VidM)(k:UInt8):(ofM L f k).length≤(idsM L).length:=Nat.le_trans (List.length_filter_le _ _) (by unfold vertsM;rw [List.length_map];exact Nat.le_refl _)
attribute [local irreducible] ofM aliveM namesM idsM
theorem nof_any(b:Nat)(L:List PatchM)(file:VidM)(w:World)(hg:GrIs w b L)(hw:WfG L)(hil:(idsM L).length≤1000000) :
  Calls Tryz.prog 79 #[.pointer (some ⟨b,0,none⟩),vidV file] w (OwnRes encVert 9 101 w (namesM L file)):=by
 have HF:=Lh (anw w (cV file) 74);have HB:=Lh (bnew (w:=w) (.cells (cV file) 74));have HG:=Lh hg;have HW:=Lh hw;have HQ:=Lh (aliveM_q L file);have hol:=ofM_len L file 2;have HE:=Lh (fun(out:List VertM) (hp:out.Perm (aliveM L file)) hs=>names_eq (wf_len hw) file hp hs);clear hg hw;unfold vidV;go_enter Tryz.func79,Tryz.ntmps79;go_upto_region 1 with fail;generalize w.alloc (.cells (cV file) 74)=w0 at *;obtain⟨c0,c1,c2,sc⟩:=HF.o.c3;go_wp2_with fail;refine(gof_any b L file 2 _ (HG.o.over HB.o) HW.o hil).mono ?_;rintro e w1 ⟨v1,rfl,ho1,hb1⟩;have HB1:=Lh (bvo HB.o hb1);have HV1:Hid (∀ k,v1.ownBlock=some k→w.heap.size≤k):=fun k hk=>Nat.le_trans HB.o.size (gown_base ho1 hk);have HO1:=Lh ho1;clear hb1 ho1;go_wp2_with fail;refine(delete_any HO1.o (by omega)).mono ?_;rintro e w2 ⟨v2,rfl,ho2,hg2⟩;rw [HQ.o] at ho2;have HB2:=Lh (HB1.o.grown hg2 HB1.o.size HV1.o);have HO2:=Lh (ho2.base HB.o.size);have hal:(aliveM L file).length≤1000000:=by rw [← HQ.o];exact Nat.le_trans (List.length_filter_le _ _) (by omega)
 clear ho2 hg2 HV1;rcases own_cases HO2.o with⟨h0,p,c,rfl⟩|⟨hne,g,cap,rfl,hA⟩
 · have HN:Hid (([]:List VertM)=namesM L file):=HE.o [] (by rw [h0]) List.Pairwise.nil;go_wp2_with fail;refine(sortVert_none _ _ _ _).mono ?_;rintro e w3 ⟨rfl,hw3⟩;obtain rfl:=hw3.symm;go_wp2;go_ret;exact⟨_,rfl,(by rw [← HN.o,← h0];exact HO2.o),HB2.o⟩
 have HAt:=Lh hA;clear hA;go_wp2_with fail;refine(sortLater_any HAt.o (by omega)).mono ?_;rintro e w3 ⟨rfl,ys,hp,hs,hA3,hg3⟩;have HN:=Lh (HE.o ys hp (hs.imp fun h=>by simpa using h));have hyl:=hp.length_eq;have HO3:Hid (GOwn encVert 9 101 w3 w.heap.size (.slice (some ⟨g,0,none⟩) (aliveM L file).length cap) ys):=by show World.ownsRow _ _ _ _ _ _ _;rw [hyl];exact hA3.own
 have HG3:=Lh hg3;clear hp hs hA3 hg3 hyl;go_wp2;go_ret;exact⟨_,rfl,(by rw [← HN.o];exact HO3.o),HB2.o.grown HG3.o HB2.o.size fun k hk=>by cases hk;exact HAt.o.base⟩
end Go.Proofs.YtjccmcgglfncdaaGreatDoor
