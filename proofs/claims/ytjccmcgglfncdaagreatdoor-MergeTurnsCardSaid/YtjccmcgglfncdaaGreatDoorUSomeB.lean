/- What is proved: MergeTurns, for every input; of the listed tables the walk needs the powers of ten. -/
import Derived.Test.YtjccmcgglfncdaaGreatDoorUGraphF
import Derived.Test.YtjccmcgglfncdaaGreatDoorUNmP
set_option linter.unusedVariables false
set_option linter.unusedSimpArgs false
set_option maxRecDepth 100000
set_option maxHeartbeats 40000000
namespace Go.Proofs.YtjccmcgglfncdaaGreatDoor
open Go Go.RowKit
section
variable{L:List PatchM}{out:List VertM}{B:Nat}{α:Type}{y:VertM}{q:VertM→Bool}{v:VidM}{left:VidM→Bool}{w w':World}
def GrIs(w:World)(b:Nat)(L:List PatchM):Prop:=∃ bv be n,GrW w b bv be n (vecM L) (vertM L) (edgeM L)
theorem GrIs.over{b:Nat}(h:GrIs w b L)(hb:Be w w'):GrIs w' b L:=by obtain⟨bv,be,n,h⟩:=h;exact⟨bv,be,n,h.over hb⟩
theorem gown_base{enc:α→List Value}{sz:Nat}{e:TypeId}{v:Value}{xs:List α}(h:GOwn enc sz e w B v xs){k:Nat}(hk:v.ownBlock=some k):B≤k:=by
 rcases h.2 with⟨rfl,_⟩|⟨g,cap,cur,rfl,hB,_⟩
 · simp [Value.ownBlock] at hk
 simp [Value.ownBlock] at hk;omega
theorem slVertP:SlT Tryz.prog 98 101 9 40:=slT_of Tryz.underlying98 (by kernel_rfl) (by decide)
theorem below_none(hb:Be w w'):w.grownBy w' none:=⟨hb.os,hb.tape,hb.output,hb.size,fun i hi _=>hb.block i hi⟩
theorem nodup_len[DecidableEq α]:∀ {l m:List α},l.Nodup→(∀ x∈l,x∈m)→l.length≤m.length
 | [],_,_,_=>Nat.zero_le _
 | x :: l,m,h,hs=>by
  obtain⟨h1,h2⟩:=List.nodup_cons.1 h;have hx:x∈m:=hs x (List.mem_cons_self ..);have:=nodup_len (l:=l) (m:=m.erase x) h2 fun y hy=>by have hne:y≠x:=fun e=>h1 (e▸hy);exact(List.mem_erase_of_ne hne).2 (hs y (List.mem_cons_of_mem _ hy))
  rw [List.length_erase_of_mem hx] at this;have hp:0<m.length:=List.length_pos_of_mem hx;simp;omega
theorem oneVert:∀ x:VertM,∀ v∈encVert x,v.oneCell'=true:=fun x v hv=>by simp [encVert,encVid] at hv;rcases hv with rfl|rfl|rfl|rfl|rfl|rfl|rfl|rfl|rfl <;> rfl
theorem someCmpG(a b:VertM)(w:World):Calls Tryz.prog 203 #[vertV a,vertV b] w fun e w'=>e=.returned (.int .i64 (cmpVid a.id b.id))∧Grew w w':=by have HA:=Lh ((anw w (cX a) 101).alloc (.cells (cX b) 101));have HC:=Lh (an2 w (.cells (cX a) 101) (cX b) 101);have HB:=Lh (((Grew.refl w).alloc (.cells (cX a) 101)).alloc (.cells (cX b) 101));unfold vertV;go_enter Tryz.func203,Tryz.ntmps203;go_upto_region 1 with fail;generalize (w.alloc (.cells (cX a) 101)).alloc (.cells (cX b) 101)=w0 at *;obtain⟨c0,c1,c2,c3,c4,c5,c6,c7,c8,sc⟩:=HA.o.c9;obtain⟨d0,d1,d2,d3,d4,d5,d6,d7,d8,sd⟩:=HC.o.c9;go_wp2_with fail;refine(vcmpG a.id b.id _).mono ?_;rintro e w1 ⟨rfl,hg⟩;have HG:=Lh (HB.o.trans hg);clear hg;go_wp2;go_ret;exact⟨rfl,HG.o⟩
theorem sortVert_any{g cap:Nat}{xs:List VertM}(h:OwnAt w B 101 9 g xs.length cap (xs.flatMap encVert))(hn:xs.length≤1000000000) :
  Calls Tryz.prog 140 #[.slice (some ⟨g,0,none⟩) xs.length cap,.func (.func 203) #[] #[]] w (SortRes (fun a b=>cmpVid a.id b.id) encVert 9 101 w B g cap xs):=by have hcon:=sortF_any (P:=Tryz.prog) Tryz.sortVert (k:=9) (enc:=encVert) Tryz.isAgg101 Tryz.sizeOf101 (fun _=>rfl) oneVert (fun a b=>cmpVid a.id b.id) (swo_key (fun x:VertM=>packVid x.id) _ fun x y=>cmpN_neg _ _) 203 (enters_of Tryz.func203 (by kernel_rfl) rfl) (fun x y W=>someCmpG x y W) h (by omega);exact hcon
theorem sortVert_none(p:Option Addr)(cap:Nat)(fv:Value)(w:World) :
  Calls Tryz.prog 140 #[.slice p 0 cap,fv] w fun e w'=>e=.returned (.tuple #[])∧w'=w:=sortF_none Tryz.sortVert p cap fv w
def qOf(file:VidM)(kind:UInt8)(x:VertM):Bool:=decide (x.kind=kind) && decide (x.file=file)
def qFile(x:VertM):Bool:=decide (x.kind=1)
theorem u8_beq(a b:UInt8):((a.toNat:Int) == (b.toNat:Int))=decide (a=b):=by
 by_cases h:a=b
 · simp [h]
 have:a.toNat≠b.toNat:=fun e=>h (UInt8.toNat_inj.1 e);simp [h];omega
theorem ofFn_any(x:VertM)(file:VidM)(kind:UInt8)(gk gf:Nat)(w:World)(hK:Arr w gk [.int .u8 kind.toNat])(hF:Arr w gf [.int .u8 file.pid.author.toNat,.int .u16 file.pid.seq.toNat,.int .u8 file.n.toNat]) :
  Calls Tryz.prog 151 #[vertV x,.pointer (some ⟨gk,0,none⟩),.pointer (some ⟨gf,0,none⟩)] w fun e w'=>e=.returned (.bool (qOf file kind x))∧Be w w':=by
 have HX:=Lh (anw w (cX x) 101);have HB:=Lh (bnew (w:=w) (.cells (cX x) 101));have HK:=Lh (hK.alloc (.cells (cX x) 101));have HF:=Lh (hF.alloc (.cells (cX x) 101));have gd:=fun p q xs ys w=>guard_vid .eql p q xs ys w;clear hK hF;unfold vertV;go_enter Tryz.func151,Tryz.ntmps151;go_upto_region 1 with fail;generalize w.alloc (.cells (cX x) 101)=w0 at *;obtain⟨c0,c1,c2,c3,c4,c5,c6,c7,c8,sc⟩:=HX.o.c9;obtain⟨k0,sk⟩:=HK.o.c1;obtain⟨f0,f1,f2,sf⟩:=HF.o.c3
 by_cases h1:x.kind=kind
 ·
  have e1:((x.kind.toNat:Int) == (kind.toNat:Int))=true:=by simp [h1]
  cases h2:decide (x.file=file) with
  | true =>have e2:=eql_vid x.file file true h2;unfold vidV at e2;have HV:Hid (qOf file kind x=true):=(by show _=_;unfold qOf;rw [h2];simp [h1]);clear h1 h2;go_wp2;go_ret;exact⟨rvb HV.o,HB.o⟩
  | false =>have e2:=eql_vid x.file file false h2;unfold vidV at e2;have HV:Hid (qOf file kind x=false):=(by show _=_;unfold qOf;rw [h2];simp [h1]);clear h1 h2;go_wp2;go_ret;exact⟨rvb HV.o,HB.o⟩
 have e1:((x.kind.toNat:Int) == (kind.toNat:Int))=false:=by rw [u8_beq];simp [h1]
 have HV:Hid (qOf file kind x=false):=by show _=_;unfold qOf;simp [h1]
 clear h1;go_wp2;go_ret;exact⟨rvb HV.o,HB.o⟩
theorem fileFn_any(x:VertM)(w:World):Calls Tryz.prog 137 #[vertV x] w fun e w'=>e=.returned (.bool (qFile x))∧Be w w':=by have HX:=Lh (anw w (cX x) 101);have HB:=Lh (bnew (w:=w) (.cells (cX x) 101));have HV:Hid (((x.kind.toNat:Int) == 1)=qFile x):=u8_beq x.kind 1;unfold vertV;go_enter Tryz.func137,Tryz.ntmps137;go_upto_region 1 with fail;generalize w.alloc (.cells (cX x) 101)=w0 at *;obtain⟨c0,c1,c2,c3,c4,c5,c6,c7,c8,sc⟩:=HX.o.c9;go_wp2;go_ret;exact⟨rvl (congrArg Value.bool HV.o),HB.o⟩
def SomeRel(q:VertM→Bool)(L:List PatchM)(w w1:World)(bv it n:Nat)(v:Value)(wr:World):Prop:=
 ∃(left:VidM→Bool) (cnt:Nat) (out:List VertM),Hid (TRanges Tryz.prog 74 vidV okAll vertV wr bv it n (vertM L) left cnt)∧Hid (GOwn encVert 9 101 wr w1.heap.size v out) ∧
  Hid (∀ x,x∈out↔vertM L x.id=some x∧q x=true∧left x.id=false)∧Hid ((out.map (·.id)).Nodup)∧Hid (Be w wr)∧w1.heap.size≤wr.heap.size
theorem some_take(h:∀ x,x∈out↔vertM L x.id=some x∧q x=true∧left x.id=false)(hy:vertM L v=some y)(hq:q y=true)(x:VertM) :
  x∈out++[y]↔vertM L x.id=some x∧q x=true∧(left x.id && !decide (x.id=v))=false:=by
 have hid:=vertM_id hy;rw [List.mem_append,List.mem_singleton,h x]
 by_cases hx:x.id=v
 ·
  simp only [hx,decide_true,Bool.not_true,Bool.and_false,and_true];constructor
  ·
   rintro(⟨h1,h2,_⟩|rfl)
   · exact⟨h1,h2⟩
   exact⟨hy,hq⟩
  rintro⟨h1,_⟩;rw [hy] at h1;cases h1;exact .inr rfl
 simp only [hx,decide_false,Bool.not_false,Bool.and_true];constructor
 ·
  rintro(h1|rfl)
  · exact h1
  exact absurd hid hx
 exact .inl
theorem some_skip(h:∀ x,x∈out↔vertM L x.id=some x∧q x=true∧left x.id=false)(hy:vertM L v=some y)(hq:q y=false)(x:VertM) :
  x∈out↔vertM L x.id=some x∧q x=true∧(left x.id && !decide (x.id=v))=false:=by
 rw [h x]
 by_cases hx:x.id=v
 ·
  simp only [hx,decide_true,Bool.not_true,Bool.and_false,and_true];constructor
  · rintro⟨h1,h2,_⟩;exact⟨h1,h2⟩
  rintro⟨h1,h2⟩;rw [hy] at h1;cases h1;rw [hq] at h2;cases h2
 simp only [hx,decide_false,Bool.not_false,Bool.and_true]
theorem some_new(h:∀ x,x∈out↔vertM L x.id=some x∧q x=true∧left x.id=false)(hn:(out.map (·.id)).Nodup)(hy:vertM L v=some y)(hl:left v=true):((out++[y]).map (·.id)).Nodup:=by have hid:=vertM_id hy;rw [List.map_append,List.nodup_append];refine⟨hn,by simp,fun a ha b hb e => ?_⟩;simp at hb;obtain⟨x,hx,rfl⟩:=List.mem_map.1 ha;have:=((h x).1 hx).2.2;rw [e,hb,hid,hl] at this;cases this
theorem some_few(hl:∀ p∈L,p.ops.length≤200)(h:∀ x,x∈out↔vertM L x.id=some x∧q x=true∧left x.id=false)(hn:(out.map (·.id)).Nodup):out.length≤(idsM L).length:=by
 have:=nodup_len hn (m:=idsM L) fun v hv=>by obtain⟨x,hx,rfl⟩:=List.mem_map.1 hv;rw [mem_idsM hl,((h x).1 hx).1];rfl
 simpa using this
theorem some_sorted(hl:∀ p∈L,p.ops.length≤200){ys:List VertM}(h:∀ x,x∈out↔vertM L x.id=some x∧q x=true∧left x.id=false)(hn:(out.map (·.id)).Nodup)(hall:∀ v,left v=false)
  (hp:ys.Perm out) (hs:ys.Pairwise fun a b=>¬ cmpVid b.id a.id<0):ys=(vertsM L).filter q:=by
 refine verts_eq hl q ?_ fun x=>by rw [hp.mem_iff,h x];simp [hall]
 have hnd:ys.Pairwise fun a b=>a.id≠b.id:=List.pairwise_map.1 (show List.Pairwise (fun a b=>a≠b) (ys.map (·.id)) from(hp.map _).nodup_iff.2 hn);unfold Rises;refine(hs.and hnd).imp fun {a b} hab => ?_;obtain⟨h1,h2⟩:=hab;unfold cmpVid at h1;rw [cmpN_neg] at h1;have:packVid a.id≠packVid b.id:=fun e=>h2 (packVid_inj e);unfold vertKey;omega
theorem TRanges.grow{P:Program}{k:TypeId}{κ ν:Type}{kenc:κ→Value}{ok:κ→Prop}{venc:ν→Value}{b r n:Nat}{f:κ→Option ν}{left:κ→Bool}{cnt:Nat}{enc:α→List Value}{sz:Nat}{e:TypeId}{v:Value}{xs:List α}
  (h:TRanges P k kenc ok venc w b r n f left cnt) (ho:GOwn enc sz e w B v xs) (hg:w.grownBy w' v.ownBlock) (hb:b<B) (hr:r<B):TRanges P k kenc ok venc w' b r n f left cnt:=
 h.kept hg (fun q=>by have:=gown_base ho q.symm;omega) (fun q=>by have:=gown_base ho q.symm;omega)
attribute [local irreducible] vertM vertsM idsM qOf qFile
theorem psomeOf_any(b:Nat)(L:List PatchM)(w:World)(hg:GrIs w b L)(hw:WfG L)(hil:(idsM L).length≤1000000)(file:VidM)(kind:UInt8)(gk gf:Nat)(hK:Arr w gk [.int .u8 kind.toNat])(hF:Arr w gf [.int .u8 file.pid.author.toNat,.int .u16 file.pid.seq.toNat,.int .u8 file.n.toNat]) :
  Calls Tryz.prog 126 #[.pointer (some ⟨b,0,none⟩),.func (.func 151) #[] #[.pointer (some ⟨gk,0,none⟩),.pointer (some ⟨gf,0,none⟩)]] w (OwnRes encVert 9 101 w ((vertsM L).filter (qOf file kind))):=by
 obtain⟨bv,be,n,hG⟩:=hg;have hlt:=hG.arr.lt;have hbv:=hG.verts.lt;have g64:=hG.arr.cell (gCells_v (vecM L) bv be);have HG:=Lh hG.verts;have HW:=Lh (wf_len hw);have HKK:=Lh (@keysVid);have HK:=Lh hK;have HF:=Lh hF;clear hK hF;clear hG hw;go_enter Tryz.func126,Tryz.ntmps126;go_wp2_with (refine wpList_trange keysVid rfl _ _ rfl Tryz.underlying115 bv n _ rfl HG.o ?_;intro w1 cnt hR hg1 hs1);have HR:=Lh hR;have HB1:=Lh (show Be w w1 from⟨hg1.os,hg1.tape,hg1.output,hg1.size,fun k hk=>hg1.block k hk (by simp)⟩);clear hR hg1 g64;go_simp;go_loopw [5] (fun v5 wr=>SomeRel (qOf file kind) L w w1 bv w.heap.size n v5 wr) (fun _ wr=>wr.rangeLeft bv w.heap.size)
 case atStart=>exact⟨_,cnt,[],HR,gown_nil _ _,Lh (fun x=>by simp;intro h1 _;simp [h1]),Lh (by simp),HB1,Nat.le_refl _⟩
 obtain⟨left,cnt1,out,HR1,HO,HM,HN,HBr,hsr⟩:=hrel;rename World=>wr;have hle:=HR1.o.left_eq;have hfew:=some_few HW.o HM.o HN.o;go_wp2_with (refine wpList_tnext keysVid rfl _ rfl bv w.heap.size n _ left cnt1 rfl HR1.o ?_ ?_)
 ·
  intro hall;have HA:=Lh hall;clear hall;rcases own_cases HO.o with⟨rfl,p,c,rfl⟩|⟨hne,g,cap,rfl,hA⟩
  · have HE:=Lh (some_sorted HW.o HM.o HN.o (fun v=>HA.o v trivial) (List.Perm.refl _) List.Pairwise.nil);go_wp2_with fail;refine(sortVert_none _ _ _ _).mono ?_;rintro e w2 ⟨rfl,hw2⟩;obtain rfl:=hw2.symm;go_wp2;go_ret;exact⟨_,rfl,(by rw [← HE.o];exact HO.o.base (by omega)),HBr.o⟩
  have HAt:=Lh hA;clear hA;go_wp2_with fail;refine(sortVert_any HAt.o (by omega)).mono ?_;rintro e w2 ⟨rfl,ys,hp,hs,hA2,hg2⟩;have HE:=Lh (some_sorted HW.o HM.o HN.o (fun v=>HA.o v trivial) hp hs);have hyl:=hp.length_eq;rw [← hyl] at hA2;have HO2:Hid (GOwn encVert 9 101 w2 w1.heap.size (.slice (some ⟨g,0,none⟩) out.length cap) ys):=by show World.ownsRow _ _ _ _ _ _ _;rw [← hyl];exact hA2.own
  have HG2:=Lh hg2;clear hp hs hA2 hg2 hyl;go_wp2;go_ret;exact⟨_,rfl,(by rw [← HE.o];exact HO2.o.base (by omega)),HBr.o.grown HG2.o HBr.o.size fun k hk=>by cases hk;have:=HAt.o.base;omega⟩
 intro x y w2 cnt2 hx hl hy hR2 hcl hg2 hs2 hent;have HR2:=Lh hR2;have HY:=Lh hy;have HX:=Lh hl;have HO2:=Lh (show GOwn _ _ _ w2 _ _ _ from own_grown HO.o hg2 (.inr fun q=>by have:=gown_base HO.o q;omega));have HB2:Hid (Be w w2):=HBr.o.grown hg2 HBr.o.size fun k hk=>by cases hk;exact Nat.le_refl _
 clear hR2 hy hl hg2 hx;unfold vertV at hent;go_upto_region 7 with fail;have hA7:=anw w2 (cX y) 101;rw [hs2] at hA7;have HA7:=Lh hA7;clear hA7;have HB7:=Lh (bnew (w:=w2) (.cells (cX y) 101));generalize w2.alloc (.cells (cX y) 101)=w7 at *;clear hent;have hs7:=HB7.o.size;obtain⟨y0,y1,y2,y3,y4,y5,y6,y7,y8,sy⟩:=HA7.o.c9;go_wp2_with fail;refine(ofFn_any y file kind gk gf _ (HK.o.over (bvo HB2.o HB7.o)) (HF.o.over (bvo HB2.o HB7.o))).mono ?_;rintro e w8 ⟨rfl,hb8⟩;have HB8:=Lh (bvo HB7.o hb8);have HA8:=Lh (HA7.o.over hb8);have hs8:=HB8.o.size;have HR8:=Lh (HR2.o.kept (below_none HB8.o) (by simp) (by simp));have HO8:=Lh (HO2.o.over HB8.o);have HBB8:=Lh (bvo HB2.o HB8.o);clear hb8 y0 y1 y2 y3 y4 y5 y6 y7 y8 sy;obtain⟨z0,z1,z2,z3,z4,z5,z6,z7,z8,sz⟩:=HA8.o.c9;have hle2:=HR8.o.left_eq;cases hq:(qOf file kind) y with
 | false =>
  have HM2:=Lh (some_skip HM.o HY.o hq);clear hq;go_wp2;go_roundw
  case rel=>exact⟨_,cnt2,out,HR8,HO8,HM2,HN,HBB8,by omega⟩
  show World.rangeLeft _ _ _<World.rangeLeft _ _ _;omega
 | true =>
  have HM2:=Lh (some_take HM.o HY.o hq);have HN2:=Lh (some_new HM.o HN.o HY.o HX.o);have hNl:out.length+1≤1099511627776:=by omega
  have hB8:w1.heap.size≤w8.heap.size:=by omega
  clear hq;go_wp2_with (at_builtin;refine apD slVertP rfl _ _ rfl w1.heap.size _ _ (drf _) 1 _ _ _ HO8.o rfl rfl rfl rfl hNl (by decide) hB8 ?_;intro v9 w9 ho9 hg9);have HR9:=Lh (HR8.o.grow HO8.o hg9 (by omega) (by omega));have hle9:=HR9.o.left_eq;have hs9:=hg9.size;go_roundw
  case rel=>exact⟨_,cnt2,out++[y],HR9,GOwn.snoc ho9,HM2,HN2,HBB8.o.grown hg9 HBB8.o.size (fun k hk=>by have:=gown_base HO8.o hk;omega),by omega⟩
  show World.rangeLeft _ _ _<World.rangeLeft _ _ _;omega
theorem psomeFile_any(b:Nat)(L:List PatchM)(w:World)(hg:GrIs w b L)(hw:WfG L)(hil:(idsM L).length≤1000000) :
  Calls Tryz.prog 126 #[.pointer (some ⟨b,0,none⟩),.func (.func 137) #[] #[]] w (OwnRes encVert 9 101 w ((vertsM L).filter (qFile))):=by
 obtain⟨bv,be,n,hG⟩:=hg;have hlt:=hG.arr.lt;have hbv:=hG.verts.lt;have g64:=hG.arr.cell (gCells_v (vecM L) bv be);have HG:=Lh hG.verts;have HW:=Lh (wf_len hw);have HKK:=Lh (@keysVid);clear hG hw;go_enter Tryz.func126,Tryz.ntmps126;go_wp2_with (refine wpList_trange keysVid rfl _ _ rfl Tryz.underlying115 bv n _ rfl HG.o ?_;intro w1 cnt hR hg1 hs1);have HR:=Lh hR;have HB1:=Lh (show Be w w1 from⟨hg1.os,hg1.tape,hg1.output,hg1.size,fun k hk=>hg1.block k hk (by simp)⟩);clear hR hg1 g64;go_simp;go_loopw [5] (fun v5 wr=>SomeRel (qFile) L w w1 bv w.heap.size n v5 wr) (fun _ wr=>wr.rangeLeft bv w.heap.size)
 case atStart=>exact⟨_,cnt,[],HR,gown_nil _ _,Lh (fun x=>by simp;intro h1 _;simp [h1]),Lh (by simp),HB1,Nat.le_refl _⟩
 case round =>
  obtain⟨left,cnt1,out,HR1,HO,HM,HN,HBr,hsr⟩:=hrel;rename World=>wr;have hle:=HR1.o.left_eq;have hfew:=some_few HW.o HM.o HN.o;go_wp2_with (refine wpList_tnext keysVid rfl _ rfl bv w.heap.size n _ left cnt1 rfl HR1.o ?_ ?_)
  ·
   intro hall;have HA:=Lh hall;clear hall;rcases own_cases HO.o with⟨rfl,p,c,rfl⟩|⟨hne,g,cap,rfl,hA⟩
   · have HE:=Lh (some_sorted HW.o HM.o HN.o (fun v=>HA.o v trivial) (List.Perm.refl _) List.Pairwise.nil);go_wp2_with fail;refine(sortVert_none _ _ _ _).mono ?_;rintro e w2 ⟨rfl,hw2⟩;obtain rfl:=hw2.symm;go_wp2;go_ret;exact⟨_,rfl,(by rw [← HE.o];exact HO.o.base (by omega)),HBr.o⟩
   · have HAt:=Lh hA;clear hA;go_wp2_with fail;refine(sortVert_any HAt.o (by omega)).mono ?_;rintro e w2 ⟨rfl,ys,hp,hs,hA2,hg2⟩;have HE:=Lh (some_sorted HW.o HM.o HN.o (fun v=>HA.o v trivial) hp hs);have hyl:=hp.length_eq;rw [← hyl] at hA2;have HO2:Hid (GOwn encVert 9 101 w2 w1.heap.size (.slice (some ⟨g,0,none⟩) out.length cap) ys):=(by show World.ownsRow _ _ _ _ _ _ _;rw [← hyl];exact hA2.own);have HG2:=Lh hg2;clear hp hs hA2 hg2 hyl;go_wp2;go_ret;exact⟨_,rfl,(by rw [← HE.o];exact HO2.o.base (by omega)),HBr.o.grown HG2.o HBr.o.size fun k hk=>by cases hk;have:=HAt.o.base;omega⟩
  ·
   intro x y w2 cnt2 hx hl hy hR2 hcl hg2 hs2 hent;have HR2:=Lh hR2;have HY:=Lh hy;have HX:=Lh hl;have HO2:=Lh (show GOwn _ _ _ w2 _ _ _ from own_grown HO.o hg2 (.inr fun q=>by have:=gown_base HO.o q;omega));have HB2:Hid (Be w w2):=HBr.o.grown hg2 HBr.o.size fun k hk=>by cases hk;exact Nat.le_refl _
   clear hR2 hy hl hg2 hx;unfold vertV at hent;go_upto_region 7 with fail;have hA7:=anw w2 (cX y) 101;rw [hs2] at hA7;have HA7:=Lh hA7;clear hA7;have HB7:=Lh (bnew (w:=w2) (.cells (cX y) 101));generalize w2.alloc (.cells (cX y) 101)=w7 at *;clear hent;have hs7:=HB7.o.size;obtain⟨y0,y1,y2,y3,y4,y5,y6,y7,y8,sy⟩:=HA7.o.c9;go_wp2_with fail;refine(fileFn_any y _).mono ?_;rintro e w8 ⟨rfl,hb8⟩;have HB8:=Lh (bvo HB7.o hb8);have HA8:=Lh (HA7.o.over hb8);have hs8:=HB8.o.size;have HR8:=Lh (HR2.o.kept (below_none HB8.o) (by simp) (by simp));have HO8:=Lh (HO2.o.over HB8.o);have HBB8:=Lh (bvo HB2.o HB8.o);clear hb8 y0 y1 y2 y3 y4 y5 y6 y7 y8 sy;obtain⟨z0,z1,z2,z3,z4,z5,z6,z7,z8,sz⟩:=HA8.o.c9;have hle2:=HR8.o.left_eq;cases hq:(qFile) y with
   | false =>
    have HM2:=Lh (some_skip HM.o HY.o hq);clear hq;go_wp2;go_roundw
    case rel=>exact⟨_,cnt2,out,HR8,HO8,HM2,HN,HBB8,by omega⟩
    case measure=>show World.rangeLeft _ _ _<World.rangeLeft _ _ _;omega
   | true =>
    have HM2:=Lh (some_take HM.o HY.o hq);have HN2:=Lh (some_new HM.o HN.o HY.o HX.o);have hNl:out.length+1≤1099511627776:=(by omega);have hB8:w1.heap.size≤w8.heap.size:=(by omega);clear hq;go_wp2_with (at_builtin;refine apD slVertP rfl _ _ rfl w1.heap.size _ _ (drf _) 1 _ _ _ HO8.o rfl rfl rfl rfl hNl (by decide) hB8 ?_;intro v9 w9 ho9 hg9);have HR9:=Lh (HR8.o.grow HO8.o hg9 (by omega) (by omega));have hle9:=HR9.o.left_eq;have hs9:=hg9.size;go_roundw
    case rel=>exact⟨_,cnt2,out++[y],HR9,GOwn.snoc ho9,HM2,HN2,HBB8.o.grown hg9 HBB8.o.size (fun k hk=>by have:=gown_base HO8.o hk;omega),by omega⟩
    case measure=>show World.rangeLeft _ _ _<World.rangeLeft _ _ _;omega
end
theorem ofM_q(L:List PatchM)(file:VidM)(kind:UInt8):(vertsM L).filter (qOf file kind)=ofM L file kind:=rfl
theorem filesM_q(L:List PatchM):((vertsM L).filter qFile).map (·.id)=filesM L:=rfl
theorem gof_any(b:Nat)(L:List PatchM)(file:VidM)(kind:UInt8)(w:World)(hg:GrIs w b L)(hw:WfG L)(hil:(idsM L).length≤1000000) :
  Calls Tryz.prog 86 #[.pointer (some ⟨b,0,none⟩),vidV file,.int .u8 kind.toNat] w (OwnRes encVert 9 101 w (ofM L file kind)):=by have HF:=Lh ((anw w (cV file) 74).alloc (.cells #[.int .u8 kind.toNat] 5));have HK:=Lh (an2 w (.cells (cV file) 74) #[.int .u8 kind.toNat] 5);have HB:=Lh ((bnew (w:=w) (.cells (cV file) 74)).alloc (by simp) (.cells #[.int .u8 kind.toNat] 5));have HG:=Lh hg;have HW:=Lh hw;have HQ:=Lh (ofM_q L file kind);clear hg hw;unfold vidV;go_enter Tryz.func86,Tryz.ntmps86;go_upto_region 1 with fail;generalize (w.alloc (.cells (cV file) 74)).alloc (.cells #[.int .u8 kind.toNat] 5)=w0 at *;go_wp2_with fail;refine(psomeOf_any b L _ (HG.o.over HB.o) HW.o hil file kind (w.heap.size+1) w.heap.size HK.o HF.o).mono ?_;rintro e w1 ⟨v,rfl,ho,hb⟩;rw [HQ.o] at ho;have HO:=Lh (ho.base HB.o.size);have HB1:=Lh (bvo HB.o hb);clear ho hb;go_wp2;go_ret;exact⟨_,rfl,HO.o,HB1.o⟩
def FsRel(w2:World)(xs:List VertM)(v3 v9:Value)(wr:World):Prop:=∃ k:Nat,k≤xs.length∧v9=.int .i64 k∧Hid (GOwn encVid 3 74 wr w2.heap.size v3 ((xs.take k).map (·.id)))∧Be w2 wr
theorem fs_succ{xs:List VertM}{k:Nat}{x:VertM}(h:xs[k]? = some x):(xs.take (k+1)).map (·.id)=(xs.take k).map (·.id)++[x.id]:=by rw [take_succ' h];simp
attribute [local irreducible] vertsM idsM qFile filesM
theorem gfiles_any(b:Nat)(L:List PatchM)(w:World)(hg:GrIs w b L)(hw:WfG L)(hil:(idsM L).length≤1000000) :
  Calls Tryz.prog 77 #[.pointer (some ⟨b,0,none⟩)] w (OwnRes encVid 3 74 w (filesM L)):=by
 have HG:=Lh hg;have HW:=Lh hw;have hvl:((vertsM L).filter qFile).length≤1000000:=Nat.le_trans (List.length_filter_le _ _) (by unfold vertsM;rw [List.length_map];exact hil);have HQ:=Lh (filesM_q L);clear hg hw;go_enter Tryz.func77,Tryz.ntmps77;go_wp2_with fail;refine(psomeFile_any b L _ HG.o HW.o hil).mono ?_;generalize (vertsM L).filter qFile=xs at *;rintro e w2 ⟨v,rfl,ho,hb⟩;obtain⟨a,cap,rfl,t1,t2,hc⟩:=ho.row.at encVert_len;unfold maxLen at t2;have HC:=Lh hc;have HB2:=Lh hb;clear ho hb hc;go_wp2;go_loopw [3,9] (fun v3 v9 wr=>FsRel w2 xs v3 v9 wr) (fun _ v9 _=>xs.length - (intOf v9).toNat)
 case atStart=>exact⟨0,Nat.zero_le _,rfl,gown_nil _ _,Below.refl _ _⟩
 obtain⟨k,hk,rfl,HM,hbl⟩:=hrel;rename World=>wr
 by_cases hlt:k<xs.length
 ·
  obtain⟨b3,off3,rfl,sb3,hcb⟩:=HC.o.resolve_left (by omega);obtain⟨u,hu⟩:=gol hlt;have HSu:=Lh (fs_succ hu);have HU:=Lh (hcb k u hu wr hbl);obtain⟨u0,u1,u2,u3,u4,u5,u6,u7,u8,su⟩:=rc9 HU.o;clear hcb hu;go_upto_region 5 with fail;have HA7:=Lh (anw wr (cX u) 101);have HB7:=Lh (bnew (w:=wr) (.cells (cX u) 101));generalize wr.alloc (.cells (cX u) 101)=w7 at *;clear u0 u1 u2 u3 u4 u5 u6 u7 u8 su;have hs7:=HB7.o.size;have hsl:=hbl.size;have HM7:=Lh (HM.o.over HB7.o);have hb7:=bvo hbl HB7.o;have hB7:w2.heap.size≤w7.heap.size:=by omega
  have hN7:((xs.take k).map (·.id)).length+1≤1099511627776:=by rw [List.length_map,List.length_take];omega
  obtain⟨y0,y1,y2,y3,y4,y5,y6,y7,y8,sy⟩:=HA7.o.c9;go_wp2_with (at_builtin;refine apD slVid rfl _ _ rfl w2.heap.size _ _ (drf _) 1 _ _ _ HM7.o rfl rfl rfl rfl hN7 (by decide) hB7 ?_;intro v9 w9 ho9 hg9);go_roundw
  case rel=>exact⟨k+1,hlt,by go_num,(by show GOwn _ _ _ _ _ _ _;rw [HSu.o];exact GOwn.snoc ho9),bgr hb7 hB7 HM7.o hg9⟩
  simp [intOf];omega
 obtain rfl:k=xs.length:=by omega
 have HE:=HM.o;rw [List.take_length,HQ.o] at HE;have HE2:=Lh (HE.base HB2.o.size);clear HE HM;go_wp2;go_ret;exact⟨_,rfl,HE2.o,bvo HB2.o hbl⟩
end Go.Proofs.YtjccmcgglfncdaaGreatDoor
