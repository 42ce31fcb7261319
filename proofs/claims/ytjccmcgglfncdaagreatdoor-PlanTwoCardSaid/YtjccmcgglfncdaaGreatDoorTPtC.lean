/- What is proved: PlanTwo, for every input; of the listed tables the walk needs the powers of ten. -/
import Derived.Test.YtjccmcgglfncdaaGreatDoorTPgV
import Derived.Test.YtjccmcgglfncdaaGreatDoorTPlA
set_option linter.unusedVariables false
set_option linter.unusedSimpArgs false
set_option maxRecDepth 100000
set_option maxHeartbeats 40000000
namespace Go.Proofs.YtjccmcgglfncdaaGreatDoor
open Go Go.RowKit
section
def qAll(_:VertM):Bool:=true
theorem qAll_t(x:VertM):qAll x=true:=rfl
def qEv(_:VidM):Bool:=true
theorem qEv_t(x:VidM):qEv x=true:=rfl
attribute [local irreducible] qAll qEv
theorem vertsFn_any(x:VertM)(w:World):Calls Tryz.prog 127 #[vertV x] w fun e w'=>e=.returned (.bool (qAll x))∧Be w w':=by have HB:=Lh (bnew (w:=w) (.cells (cX x) 101));have HV:Hid (true=qAll x):=Lh (qAll_t x).symm;unfold vertV;go_enter Tryz.func127,Tryz.ntmps127;go_wp2;go_ret;exact⟨rvl (congrArg Value.bool HV.o),HB.o⟩
theorem edgesFn_any(f:VidM)(w:World):Calls Tryz.prog 129 #[vidV f] w fun e w'=>e=.returned (.bool (qEv f))∧Be w w':=by have HB:=Lh (bnew (w:=w) (.cells (cV f) 74));have HV:Hid (true=qEv f):=Lh (qEv_t f).symm;unfold vidV;go_enter Tryz.func129,Tryz.ntmps129;go_wp2;go_ret;exact⟨rvl (congrArg Value.bool HV.o),HB.o⟩
attribute [local irreducible] vertM vertsM idsM edgeM edgesM fileAt
theorem psomeAll_any(b:Nat)(L:List PatchM)(w:World)(hg:GrIs w b L)(hw:WfG L)(hil:(idsM L).length≤1000000) :
  Calls Tryz.prog 126 #[.pointer (some ⟨b,0,none⟩),.func (.func 127) #[] #[]] w (OwnRes encVert 9 101 w ((vertsM L).filter (qAll))):=by
 obtain⟨bv,be,n,hG⟩:=hg;have hlt:=hG.arr.lt;have hbv:=hG.verts.lt;have g64:=hG.arr.cell (gCells_v (vecM L) bv be);have HG:=Lh hG.verts;have HW:=Lh (wf_len hw);have HKK:=Lh (@keysVid);clear hG hw;go_enter Tryz.func126,Tryz.ntmps126;go_wp2_with (refine wpList_trange keysVid rfl _ _ rfl Tryz.underlying115 bv n _ rfl HG.o ?_;intro w1 cnt hR hg1 hs1);have HR:=Lh hR;have HB1:=Lh (show Be w w1 from⟨hg1.os,hg1.tape,hg1.output,hg1.size,fun k hk=>hg1.block k hk (by simp)⟩);clear hR hg1 g64;go_simp;go_loopw [5] (fun v5 wr=>SomeRel (qAll) L w w1 bv w.heap.size n v5 wr) (fun _ wr=>wr.rangeLeft bv w.heap.size)
 case atStart=>exact⟨_,cnt,[],HR,gown_nil _ _,Lh (fun x=>by simp;intro h1 _;simp [h1]),Lh (by simp),HB1,Nat.le_refl _⟩
 case round =>
  obtain⟨left,cnt1,out,HR1,HO,HM,HN,HBr,hsr⟩:=hrel;rename World=>wr;have hle:=HR1.o.left_eq;have hfew:=some_few HW.o HM.o HN.o;go_wp2_with (refine wpList_tnext keysVid rfl _ rfl bv w.heap.size n _ left cnt1 rfl HR1.o ?_ ?_)
  ·
   intro hall;have HA:=Lh hall;clear hall;rcases own_cases HO.o with⟨rfl,p,c,rfl⟩|⟨hne,g,cap,rfl,hA⟩
   · have HE:=Lh (some_sorted HW.o HM.o HN.o (fun v=>HA.o v trivial) (List.Perm.refl _) List.Pairwise.nil);go_wp2_with fail;refine(sortVert_none _ _ _ _).mono ?_;rintro e w2 ⟨rfl,hw2⟩;obtain rfl:=hw2.symm;go_wp2;go_ret;exact⟨_,rfl,(by rw [← HE.o];exact HO.o.base (by omega)),HBr.o⟩
   · have HAt:=Lh hA;clear hA;go_wp2_with fail;refine(sortVert_any HAt.o (by omega)).mono ?_;rintro e w2 ⟨rfl,ys,hp,hs,hA2,hg2⟩;have HE:=Lh (some_sorted HW.o HM.o HN.o (fun v=>HA.o v trivial) hp hs);have hyl:=hp.length_eq;rw [← hyl] at hA2;have HO2:Hid (GOwn encVert 9 101 w2 w1.heap.size (.slice (some ⟨g,0,none⟩) out.length cap) ys):=(by show World.ownsRow _ _ _ _ _ _ _;rw [← hyl];exact hA2.own);have HG2:=Lh hg2;clear hp hs hA2 hg2 hyl;go_wp2;go_ret;exact⟨_,rfl,(by rw [← HE.o];exact HO2.o.base (by omega)),HBr.o.grown HG2.o HBr.o.size fun k hk=>by cases hk;have:=HAt.o.base;omega⟩
  ·
   intro x y w2 cnt2 hx hl hy hR2 hcl hg2 hs2 hent;have HR2:=Lh hR2;have HY:=Lh hy;have HX:=Lh hl;have HO2:=Lh (show GOwn _ _ _ w2 _ _ _ from own_grown HO.o hg2 (.inr fun q=>by have:=gown_base HO.o q;omega));have HB2:Hid (Be w w2):=HBr.o.grown hg2 HBr.o.size fun k hk=>by cases hk;exact Nat.le_refl _
   clear hR2 hy hl hg2 hx;unfold vertV at hent;go_upto_region 7 with fail;have hA7:=anw w2 (cX y) 101;rw [hs2] at hA7;have HA7:=Lh hA7;clear hA7;have HB7:=Lh (bnew (w:=w2) (.cells (cX y) 101));generalize w2.alloc (.cells (cX y) 101)=w7 at *;clear hent;have hs7:=HB7.o.size;obtain⟨y0,y1,y2,y3,y4,y5,y6,y7,y8,sy⟩:=HA7.o.c9;go_wp2_with fail;refine(vertsFn_any y _).mono ?_;rintro e w8 ⟨rfl,hb8⟩;have HB8:=Lh (bvo HB7.o hb8);have HA8:=Lh (HA7.o.over hb8);have hs8:=HB8.o.size;have HR8:=Lh (HR2.o.kept (below_none HB8.o) (by simp) (by simp));have HO8:=Lh (HO2.o.over HB8.o);have HBB8:=Lh (bvo HB2.o HB8.o);clear hb8 y0 y1 y2 y3 y4 y5 y6 y7 y8 sy;obtain⟨z0,z1,z2,z3,z4,z5,z6,z7,z8,sz⟩:=HA8.o.c9;have hle2:=HR8.o.left_eq;cases hq:(qAll) y with
   | false =>
    have HM2:=Lh (some_skip HM.o HY.o hq);clear hq;go_wp2;go_roundw
    case rel=>exact⟨_,cnt2,out,HR8,HO8,HM2,HN,HBB8,by omega⟩
    case measure=>show World.rangeLeft _ _ _<World.rangeLeft _ _ _;omega
   | true =>
    have HM2:=Lh (some_take HM.o HY.o hq);have HN2:=Lh (some_new HM.o HN.o HY.o HX.o);have hNl:out.length+1≤1099511627776:=(by omega);have hB8:w1.heap.size≤w8.heap.size:=(by omega);clear hq;go_wp2_with (at_builtin;refine apD slVertP rfl _ _ rfl w1.heap.size _ _ (drf _) 1 _ _ _ HO8.o rfl rfl rfl rfl hNl (by decide) hB8 ?_;intro v9 w9 ho9 hg9);have HR9:=Lh (HR8.o.grow HO8.o hg9 (by omega) (by omega));have hle9:=HR9.o.left_eq;have hs9:=hg9.size;go_roundw
    case rel=>exact⟨_,cnt2,out++[y],HR9,GOwn.snoc ho9,HM2,HN2,HBB8.o.grown hg9 HBB8.o.size (fun k hk=>by have:=gown_base HO8.o hk;omega),by omega⟩
    case measure=>show World.rangeLeft _ _ _<World.rangeLeft _ _ _;omega
theorem pstepsAll_any(b:Nat)(L:List PatchM)(w:World)(hg:GrIs w b L)(hil:(edgesM L).length≤1000000) :
  Calls Tryz.prog 128 #[.pointer (some ⟨b,0,none⟩),.func (.func 129) #[] #[]] w (OwnRes encEdge 6 133 w (edgesM L)):=by
 obtain⟨bv,be,n,hG⟩:=hg;have hlt:=hG.arr.lt;have hbe:=hG.edges.lt;have g65:=hG.arr.cell (gCells_e (vecM L) bv be);have HG:=Lh hG.edges;have HST:=Lh (show(edgesM L).filter (fun e=>qEv (fileAt L e.1))=edgesM L from List.filter_eq_self.2 fun e _=>qEv_t _);clear hG;go_enter Tryz.func128,Tryz.ntmps128;go_wp2_with (refine wpList_trange keysEdge rfl _ _ rfl Tryz.underlying116 be n _ rfl HG.o ?_;intro w1 cnt hR hg1 hs1);have HR:=Lh hR;have HB1:=Lh (show Be w w1 from⟨hg1.os,hg1.tape,hg1.output,hg1.size,fun k hk=>hg1.block k hk (by simp)⟩);clear hR hg1 g65;go_simp;go_loopw [5] (fun v5 wr=>StepRel qEv L w w1 be w.heap.size n v5 wr) (fun _ wr=>wr.rangeLeft be w.heap.size)
 case atStart=>exact⟨_,cnt,[],HR,gown_nil _ _,Lh (fun x=>⟨fun q=>absurd q List.not_mem_nil,fun⟨⟨v,h1,_⟩,h2⟩=>by simp [h1] at h2⟩),Lh (by simp),HB1,Nat.le_refl _⟩
 obtain⟨left,cnt1,out,HR1,HO,HM,HN,HBr,hsr⟩:=hrel;rename World=>wr;have hle:=HR1.o.left_eq;have hfew:=st_few HM.o HN.o;go_wp2_with (refine wpList_tnext keysEdge rfl _ rfl be w.heap.size n _ left cnt1 rfl HR1.o ?_ ?_)
 ·
  intro hall;have HA:=Lh hall;clear hall;rcases own_cases HO.o with⟨rfl,p,c,rfl⟩|⟨hne,g,cap,rfl,hA⟩
  · have HE:=Lh (st_sorted HM.o HN.o (fun e=>HA.o e.1 e.2 trivial) (List.Perm.refl _) List.Pairwise.nil);go_wp2_with fail;refine(sortEdge_none _ _ _ _).mono ?_;rintro e w2 ⟨rfl,hw2⟩;obtain rfl:=hw2.symm;go_wp2;go_ret;exact⟨_,rfl,(by rw [← HST.o,← HE.o];exact HO.o.base (by omega)),HBr.o⟩
  have HAt:=Lh hA;clear hA;go_wp2_with fail;refine(sortEdge_any HAt.o (by omega)).mono ?_;rintro e w2 ⟨rfl,ys,hp,hs,hA2,hg2⟩;have HE:=Lh (st_sorted HM.o HN.o (fun e=>HA.o e.1 e.2 trivial) hp hs);have hyl:=hp.length_eq;rw [← hyl] at hA2;have HO2:Hid (GOwn encEdge 6 133 w2 w1.heap.size (.slice (some ⟨g,0,none⟩) out.length cap) ys):=by show World.ownsRow _ _ _ _ _ _ _;rw [← hyl];exact hA2.own
  have HG2:=Lh hg2;clear hp hs hA2 hg2 hyl;go_wp2;go_ret;exact⟨_,rfl,(by rw [← HST.o,← HE.o];exact HO2.o.base (by omega)),HBr.o.grown HG2.o HBr.o.size fun k hk=>by cases hk;have:=HAt.o.base;omega⟩
 intro x1 x2 y w2 cnt2 hx hl hy hR2 hcl hg2 hs2 hent;obtain⟨x,hxx⟩:∃ x:EdgeM,x=(x1,x2):=⟨_,rfl⟩;have e1:x1=x.1:=by rw [hxx]
 have e2:x2=x.2:=by rw [hxx]
 rw [← hxx] at hl hy hR2;rw [e1,e2] at hent;clear hxx e1 e2 hx;have HR2:=Lh hR2;have HY:=Lh hy;have HX:=Lh hl;have HO2:=Lh (show GOwn _ _ _ w2 _ _ _ from own_grown HO.o hg2 (.inr fun q=>by have:=gown_base HO.o q;omega));have HB2:Hid (Be w w2):=HBr.o.grown hg2 HBr.o.size fun k hk=>by cases hk;exact Nat.le_refl _
 clear hR2 hy hl hg2;unfold edgeV vidV at hent;go_upto_region 7 with fail;have hA7:=(anw w2 #[.int .u8 x.1.pid.author.toNat,.int .u16 x.1.pid.seq.toNat,.int .u8 x.1.n.toNat,.int .u8 x.2.pid.author.toNat,.int .u16 x.2.pid.seq.toNat,.int .u8 x.2.n.toNat] 133).alloc (.cells (cV y) 74);rw [hs2] at hA7;have HA7:=Lh hA7;have hF7:=an2 w2 (.cells #[.int .u8 x.1.pid.author.toNat,.int .u16 x.1.pid.seq.toNat,.int .u8 x.1.n.toNat,.int .u8 x.2.pid.author.toNat,.int .u16 x.2.pid.seq.toNat,.int .u8 x.2.n.toNat] 133) (cV y) 74;rw [hs2] at hF7;have HF7:=Lh hF7;clear hA7 hF7;have HB7:=Lh ((bnew (w:=w2) (.cells #[.int .u8 x.1.pid.author.toNat,.int .u16 x.1.pid.seq.toNat,.int .u8 x.1.n.toNat,.int .u8 x.2.pid.author.toNat,.int .u16 x.2.pid.seq.toNat,.int .u8 x.2.n.toNat] 133)).alloc (by simp) (.cells (cV y) 74));generalize (w2.alloc (.cells #[.int .u8 x.1.pid.author.toNat,.int .u16 x.1.pid.seq.toNat,.int .u8 x.1.n.toNat,.int .u8 x.2.pid.author.toNat,.int .u16 x.2.pid.seq.toNat,.int .u8 x.2.n.toNat] 133)).alloc (.cells (cV y) 74)=w7 at *;clear hent;have hs7:=HB7.o.size;obtain⟨y0,y1,y2,sy⟩:=HF7.o.c3;go_wp2_with fail;refine(edgesFn_any y _).mono ?_;rintro e w8 ⟨rfl,hb8⟩;have HB8:=Lh (bvo HB7.o hb8);have HA8:=Lh (HA7.o.over hb8);have hs8:=HB8.o.size;have HR8:=Lh (HR2.o.kept (below_none HB8.o) (by simp) (by simp));have HO8:=Lh (HO2.o.over HB8.o);have HBB8:=Lh (bvo HB2.o HB8.o);clear hb8 y0 y1 y2 sy;obtain⟨z0,z1,z2,z3,z4,z5,sz⟩:=HA8.o.c6;have hle2:=HR8.o.left_eq;cases hq:qEv y with
 | false =>
  have HM2:=Lh (st_skip HM.o HY.o hq);clear hq;go_wp2;go_roundw
  case rel=>exact⟨_,cnt2,out,HR8,HO8,HM2,HN,HBB8,by omega⟩
  show World.rangeLeft _ _ _<World.rangeLeft _ _ _;omega
 | true =>
  have HM2:=Lh (st_take HM.o HY.o hq);have HN2:=Lh (st_new HM.o HN.o HX.o);have hNl:out.length+1≤1099511627776:=by omega
  have hB8:w1.heap.size≤w8.heap.size:=by omega
  clear hq;go_wp2_with (at_builtin;refine apD slEdge rfl _ _ rfl w1.heap.size _ _ (drf _) 1 _ _ _ HO8.o rfl rfl rfl rfl hNl (by decide) hB8 ?_;intro v9 w9 ho9 hg9);have HR9:=Lh (HR8.o.grow HO8.o hg9 (by omega) (by omega));have hle9:=HR9.o.left_eq;have hs9:=hg9.size;go_roundw
  case rel=>exact⟨_,cnt2,out++[x],HR9,GOwn.snoc ho9,HM2,HN2,HBB8.o.grown hg9 HBB8.o.size (fun k hk=>by have:=gown_base HO8.o hk;omega),by omega⟩
  show World.rangeLeft _ _ _<World.rangeLeft _ _ _;omega
theorem gverts_any(b:Nat)(L:List PatchM)(w:World)(hg:GrIs w b L)(hw:WfG L)(hil:(idsM L).length≤1000000):Calls Tryz.prog 70 #[.pointer (some ⟨b,0,none⟩)] w (OwnRes encVert 9 101 w (vertsM L)):=by have HC:=Lh (psomeAll_any b L w hg hw hil);clear hg;go_enter Tryz.func70,Tryz.ntmps70;go_wp2_with fail;refine HC.o.mono ?_;rintro e w1 ⟨v,rfl,ho,hb⟩;have HO:=Lh ho;have HB:=Lh hb;clear ho hb;go_wp2;go_ret;exact⟨_,rfl,(by have h:=HO.o;rw [List.filter_eq_self.2 fun x _=>qAll_t x] at h;exact h),HB.o⟩
theorem gedges_any(b:Nat)(L:List PatchM)(w:World)(hg:GrIs w b L)(hil:(edgesM L).length≤1000000):Calls Tryz.prog 72 #[.pointer (some ⟨b,0,none⟩)] w (OwnRes encEdge 6 133 w (edgesM L)):=by have HC:=Lh (pstepsAll_any b L w hg hil);clear hg;go_enter Tryz.func72,Tryz.ntmps72;go_wp2_with fail;refine HC.o.mono ?_;rintro e w1 ⟨v,rfl,ho,hb⟩;have HO:=Lh ho;have HB:=Lh hb;clear ho hb;go_wp2;go_ret;exact⟨_,rfl,HO.o,HB.o⟩
theorem equalVert_any(v u:Value)(l m:List VertM)(w:World)(hv:GRow encVert 9 w v l)(hu:GRow encVert 9 w u m) :
  Calls Tryz.prog 69 #[v,u] w fun e w'=>e=.returned (.bool (decide (l=m)))∧Be w w':=by
 obtain⟨a,cap,rfl,h1,h2,hc⟩:=hv.at encVert_len;obtain⟨a',cap',rfl,h1',h2',hc'⟩:=hu.at encVert_len;unfold maxLen at h2 h2';have HC:=Lh hc;have HC':=Lh hc';clear hv hu hc hc';have gd:=fun p q xs ys w=>guard_vert .neq p q xs ys w
 by_cases hlen:l.length=m.length
 rotate_left
 ·
  have HN:Hid (decide (l=m)=false):=decide_eq_false (fun h=>hlen (by rw [h]));have hq:((l.length:Int) != (m.length:Int))=true:=by simp;omega
  clear hlen;go_enter Tryz.func69,Tryz.ntmps69;go_wp2;go_ret;exact⟨rvb HN.o,Below.refl _ _⟩
 have HL:=Lh hlen;have hq:((l.length:Int) != (m.length:Int))=false:=by simp [hlen]
 clear hlen;go_enter Tryz.func69,Tryz.ntmps69;go_wp2;go_loopw [13] (fun i wr=>∃ k:Nat,k≤l.length∧i=.int .i64 k∧Hid (l.take k=m.take k)∧Be w wr) (fun i _=>l.length - (intOf i).toNat)
 case atStart=>exact⟨0,by omega,rfl,rfl,Below.refl _ _⟩
 obtain⟨k,hk,rfl,HK,hbl⟩:=hrel
 by_cases hlt:k<l.length
 rotate_left
 ·
  obtain rfl:k=l.length:=by omega
  have HN:Hid (decide (l=m)=true):=decide_eq_true (take_all HL.o HK.o);go_wp2;go_ret;exact⟨rvb HN.o,hbl⟩
 obtain⟨bl,ol,rfl,sl,hcl⟩:=HC.o.resolve_left (by omega);obtain⟨bm,om,rfl,sm,hcm⟩:=HC'.out.resolve_left (by have:=HL.o;omega);obtain⟨x,hx⟩:=gol hlt;obtain⟨y,hy⟩:=gol (xs:=m) (i:=k) (by have:=HL.o;omega);have hkm:k<m.length:=by have:=HL.o;omega
 have x0:wr.cell? ⟨bl,ol+k*9,none⟩=some (.int .u8 x.id.pid.author.toNat):=(hcl k x hx wr hbl).2 0 _ rfl;have x1:wr.cell? ⟨bl,ol+k*9+1,none⟩=some (.int .u16 x.id.pid.seq.toNat):=(hcl k x hx wr hbl).2 1 _ rfl;have x2:wr.cell? ⟨bl,ol+k*9+2,none⟩=some (.int .u8 x.id.n.toNat):=(hcl k x hx wr hbl).2 2 _ rfl;have x3:wr.cell? ⟨bl,ol+k*9+3,none⟩=some (.int .u8 x.kind.toNat):=(hcl k x hx wr hbl).2 3 _ rfl;have x4:wr.cell? ⟨bl,ol+k*9+4,none⟩=some (.int .u8 x.file.pid.author.toNat):=(hcl k x hx wr hbl).2 4 _ rfl;have x5:wr.cell? ⟨bl,ol+k*9+5,none⟩=some (.int .u16 x.file.pid.seq.toNat):=(hcl k x hx wr hbl).2 5 _ rfl;have x6:wr.cell? ⟨bl,ol+k*9+6,none⟩=some (.int .u8 x.file.n.toNat):=(hcl k x hx wr hbl).2 6 _ rfl;have x7:wr.cell? ⟨bl,ol+k*9+7,none⟩=some (.string x.text):=(hcl k x hx wr hbl).2 7 _ rfl;have x8:wr.cell? ⟨bl,ol+k*9+8,none⟩=some (.bool x.dead):=(hcl k x hx wr hbl).2 8 _ rfl;have y0:wr.cell? ⟨bm,om+k*9,none⟩=some (.int .u8 y.id.pid.author.toNat):=(hcm k y hy wr hbl).2 0 _ rfl;have y1:wr.cell? ⟨bm,om+k*9+1,none⟩=some (.int .u16 y.id.pid.seq.toNat):=(hcm k y hy wr hbl).2 1 _ rfl;have y2:wr.cell? ⟨bm,om+k*9+2,none⟩=some (.int .u8 y.id.n.toNat):=(hcm k y hy wr hbl).2 2 _ rfl;have y3:wr.cell? ⟨bm,om+k*9+3,none⟩=some (.int .u8 y.kind.toNat):=(hcm k y hy wr hbl).2 3 _ rfl;have y4:wr.cell? ⟨bm,om+k*9+4,none⟩=some (.int .u8 y.file.pid.author.toNat):=(hcm k y hy wr hbl).2 4 _ rfl;have y5:wr.cell? ⟨bm,om+k*9+5,none⟩=some (.int .u16 y.file.pid.seq.toNat):=(hcm k y hy wr hbl).2 5 _ rfl;have y6:wr.cell? ⟨bm,om+k*9+6,none⟩=some (.int .u8 y.file.n.toNat):=(hcm k y hy wr hbl).2 6 _ rfl;have y7:wr.cell? ⟨bm,om+k*9+7,none⟩=some (.string y.text):=(hcm k y hy wr hbl).2 7 _ rfl;have y8:wr.cell? ⟨bm,om+k*9+8,none⟩=some (.bool y.dead):=(hcm k y hy wr hbl).2 8 _ rfl;have sX:=(hcl k x hx wr hbl).1;have sY:=(hcm k y hy wr hbl).1;have HX:=Lh hx;have HY:=Lh hy;clear hcl hcm hx hy
 by_cases hxy:x=y
 ·
  have hne:=neq_vert x y false (by simp [hxy]);unfold vertV at hne;have HK2:Hid (l.take (k+1)=m.take (k+1)):=by show _=_;rw [tsg HX.o,tsg HY.o,HK.o,hxy]
  clear hxy;go_wp2_with fail;refine wlo 9 fun hcur=>?_;repeat refine lxq ?_
  refine lxe ?_;go_wp2;go_roundw
  case rel=>exact⟨k+1,hlt,by go_num,HK2,hbl.drew⟩
  simp [intOf];omega
 have hne:=neq_vert x y true (by simp [hxy]);unfold vertV at hne;have HN:Hid (decide (l=m)=false):=decide_eq_false (take_ne HX.o HY.o hxy);clear hxy;go_wp2_with fail;refine wlo 9 fun hcur=>?_;repeat refine lxq ?_
 refine lxe ?_;go_wp2;go_ret;exact⟨rvb HN.o,hbl.drew⟩
theorem equalEdge_any(v u:Value)(l m:List EdgeM)(w:World)(hv:GRow encEdge 6 w v l)(hu:GRow encEdge 6 w u m) :
  Calls Tryz.prog 71 #[v,u] w fun e w'=>e=.returned (.bool (decide (l=m)))∧Be w w':=by
 obtain⟨a,cap,rfl,h1,h2,hc⟩:=hv.at encEdge_len;obtain⟨a',cap',rfl,h1',h2',hc'⟩:=hu.at encEdge_len;unfold maxLen at h2 h2';have HC:=Lh hc;have HC':=Lh hc';clear hv hu hc hc';have gd:=fun p q xs ys w=>guard_edge .neq p q xs ys w
 by_cases hlen:l.length=m.length
 rotate_left
 ·
  have HN:Hid (decide (l=m)=false):=decide_eq_false (fun h=>hlen (by rw [h]));have hq:((l.length:Int) != (m.length:Int))=true:=by simp;omega
  clear hlen;go_enter Tryz.func71,Tryz.ntmps71;go_wp2;go_ret;exact⟨rvb HN.o,Below.refl _ _⟩
 have HL:=Lh hlen;have hq:((l.length:Int) != (m.length:Int))=false:=by simp [hlen]
 clear hlen;go_enter Tryz.func71,Tryz.ntmps71;go_wp2;go_loopw [13] (fun i wr=>∃ k:Nat,k≤l.length∧i=.int .i64 k∧Hid (l.take k=m.take k)∧Be w wr) (fun i _=>l.length - (intOf i).toNat)
 case atStart=>exact⟨0,by omega,rfl,rfl,Below.refl _ _⟩
 obtain⟨k,hk,rfl,HK,hbl⟩:=hrel
 by_cases hlt:k<l.length
 rotate_left
 ·
  obtain rfl:k=l.length:=by omega
  have HN:Hid (decide (l=m)=true):=decide_eq_true (take_all HL.o HK.o);go_wp2;go_ret;exact⟨rvb HN.o,hbl⟩
 obtain⟨bl,ol,rfl,sl,hcl⟩:=HC.o.resolve_left (by omega);obtain⟨bm,om,rfl,sm,hcm⟩:=HC'.out.resolve_left (by have:=HL.o;omega);obtain⟨x,hx⟩:=gol hlt;obtain⟨y,hy⟩:=gol (xs:=m) (i:=k) (by have:=HL.o;omega);have hkm:k<m.length:=by have:=HL.o;omega
 have x0:wr.cell? ⟨bl,ol+k*6,none⟩=some (.int .u8 x.1.pid.author.toNat):=(hcl k x hx wr hbl).2 0 _ rfl;have x1:wr.cell? ⟨bl,ol+k*6+1,none⟩=some (.int .u16 x.1.pid.seq.toNat):=(hcl k x hx wr hbl).2 1 _ rfl;have x2:wr.cell? ⟨bl,ol+k*6+2,none⟩=some (.int .u8 x.1.n.toNat):=(hcl k x hx wr hbl).2 2 _ rfl;have x3:wr.cell? ⟨bl,ol+k*6+3,none⟩=some (.int .u8 x.2.pid.author.toNat):=(hcl k x hx wr hbl).2 3 _ rfl;have x4:wr.cell? ⟨bl,ol+k*6+4,none⟩=some (.int .u16 x.2.pid.seq.toNat):=(hcl k x hx wr hbl).2 4 _ rfl;have x5:wr.cell? ⟨bl,ol+k*6+5,none⟩=some (.int .u8 x.2.n.toNat):=(hcl k x hx wr hbl).2 5 _ rfl;have y0:wr.cell? ⟨bm,om+k*6,none⟩=some (.int .u8 y.1.pid.author.toNat):=(hcm k y hy wr hbl).2 0 _ rfl;have y1:wr.cell? ⟨bm,om+k*6+1,none⟩=some (.int .u16 y.1.pid.seq.toNat):=(hcm k y hy wr hbl).2 1 _ rfl;have y2:wr.cell? ⟨bm,om+k*6+2,none⟩=some (.int .u8 y.1.n.toNat):=(hcm k y hy wr hbl).2 2 _ rfl;have y3:wr.cell? ⟨bm,om+k*6+3,none⟩=some (.int .u8 y.2.pid.author.toNat):=(hcm k y hy wr hbl).2 3 _ rfl;have y4:wr.cell? ⟨bm,om+k*6+4,none⟩=some (.int .u16 y.2.pid.seq.toNat):=(hcm k y hy wr hbl).2 4 _ rfl;have y5:wr.cell? ⟨bm,om+k*6+5,none⟩=some (.int .u8 y.2.n.toNat):=(hcm k y hy wr hbl).2 5 _ rfl;have sX:=(hcl k x hx wr hbl).1;have sY:=(hcm k y hy wr hbl).1;have HX:=Lh hx;have HY:=Lh hy;clear hcl hcm hx hy
 by_cases hxy:x=y
 ·
  have hne:=neq_edge x y false (by simp [hxy]);unfold edgeV at hne;have HK2:Hid (l.take (k+1)=m.take (k+1)):=by show _=_;rw [tsg HX.o,tsg HY.o,HK.o,hxy]
  clear hxy;go_wp2_with fail;refine wlo 9 fun hcur=>?_;repeat refine lxq ?_
  refine lxe ?_;go_wp2;go_roundw
  case rel=>exact⟨k+1,hlt,by go_num,HK2,hbl.drew⟩
  simp [intOf];omega
 have hne:=neq_edge x y true (by simp [hxy]);unfold edgeV at hne;have HN:Hid (decide (l=m)=false):=decide_eq_false (take_ne HX.o HY.o hxy);clear hxy;go_wp2_with fail;refine wlo 9 fun hcur=>?_;repeat refine lxq ?_
 refine lxe ?_;go_wp2;go_ret;exact⟨rvb HN.o,hbl.drew⟩
theorem eql_vec(f:VecM)(w:World):(binOp .eql 54 (vecV f) (vecV f)).run Tryz.prog w=.ok (.bool true) w:=by unfold vecV;rw [run_eql_struct,show(Op.equalIn 10000 54 (.agg (vecL f).toArray) (.agg (vecL f).toArray)).run Tryz.prog w=.ok true w from equal_vec f w];rfl
attribute [local irreducible] vecM vecL
theorem gsame_any(b b':Nat)(A B:List PatchM)(w:World)(ha:GrIs w b A)(hb:GrIs w b' B)(hwa:WfG A)(hwb:WfG B)(hia:(idsM A).length≤1000000)(hib:(idsM B).length≤1000000)(hea:(edgesM A).length≤1000000)(heb:(edgesM B).length≤1000000)
  (h1:vecM A=vecM B) (h2:vertsM A=vertsM B) (h3:edgesM A=edgesM B) :
  Calls Tryz.prog 27 #[.pointer (some ⟨b,0,none⟩),.pointer (some ⟨b',0,none⟩)] w fun e w'=>e=.returned (.bool true)∧Be w w':=by have HA:=Lh ha;have HB:=Lh hb;have HWA:=Lh hwa;have HWB:=Lh hwb;have HIA:=Lh hia;have HIB:=Lh hib;have HEA:=Lh hea;have HEB:=Lh heb;have H1:=Lh h1;have H2:=Lh h2;have H3:=Lh h3;have ev:=fun W=>eql_vec (vecM A) W;have gv:=fun p q xs ys W=>guard_vec .eql p q xs ys W;clear ha hb hwa hwb hia hib hea heb h1 h2 h3;go_enter Tryz.func27,Tryz.ntmps27;go_wp2_with fail;refine(gvec_any b A w HA.o).mono ?_;rintro e w1 ⟨rfl,hb1⟩;have HB1:=Lh hb1;clear hb1;go_wp2_with fail;refine(gvec_any b' B w1 (HB.o.over HB1.o)).mono ?_;rw [← H1.o];rintro e w2 ⟨rfl,hb2⟩;have HB2:=Lh (bvo HB1.o hb2);clear hb2;go_wp2_with fail;refine(gverts_any b A w2 (HA.o.over HB2.o) HWA.o HIA.o).mono ?_;rintro e w3 ⟨v3,rfl,ho3,hb3⟩;have HO3:=Lh ho3.row;have HB3:=Lh (bvo HB2.o hb3);obtain⟨p3,c3,e3⟩:=own_sl ho3;obtain⟨n3,hn3⟩:∃ n,(vertsM A).length=n:=⟨_,rfl⟩;rw [hn3] at e3;subst e3;clear ho3 hb3 hn3;go_wp2_with fail;refine(gverts_any b' B w3 (HB.o.over HB3.o) HWB.o HIB.o).mono ?_;rw [← H2.o];rintro e w4 ⟨v4,rfl,ho4,hb4⟩;have HO4:=Lh ho4.row;have HO34:=Lh (HO3.o.over hb4);have HB4:=Lh (bvo HB3.o hb4);obtain⟨p4,c4,e4⟩:=own_sl ho4;obtain⟨n4,hn4⟩:∃ n,(vertsM A).length=n:=⟨_,rfl⟩;rw [hn4] at e4;subst e4;clear ho4 hb4 hn4;go_wp2_with fail;refine(equalVert_any _ _ _ _ w4 HO34.o HO4.o).mono ?_;rw [decide_eq_true rfl];rintro e w5 ⟨rfl,hb5⟩;have HB5:=Lh (bvo HB4.o hb5);clear hb5;go_wp2_with fail;refine(gedges_any b A w5 (HA.o.over HB5.o) HEA.o).mono ?_;rintro e w6 ⟨v6,rfl,ho6,hb6⟩;have HO6:=Lh ho6.row;have HB6:=Lh (bvo HB5.o hb6);obtain⟨p6,c6,e6⟩:=own_sl ho6;obtain⟨n6,hn6⟩:∃ n,(edgesM A).length=n:=⟨_,rfl⟩;rw [hn6] at e6;subst e6;clear ho6 hb6 hn6;go_wp2_with fail;refine(gedges_any b' B w6 (HB.o.over HB6.o) HEB.o).mono ?_;rw [← H3.o];rintro e w7 ⟨v7,rfl,ho7,hb7⟩;have HO7:=Lh ho7.row;have HO67:=Lh (HO6.o.over hb7);have HB7:=Lh (bvo HB6.o hb7);obtain⟨p7,c7,e7⟩:=own_sl ho7;obtain⟨n7,hn7⟩:∃ n,(edgesM A).length=n:=⟨_,rfl⟩;rw [hn7] at e7;subst e7;clear ho7 hb7 hn7;go_wp2_with fail;refine(equalEdge_any _ _ _ _ w7 HO67.o HO7.o).mono ?_;rw [decide_eq_true rfl];rintro e w8 ⟨rfl,hb8⟩;have HB8:=Lh (bvo HB7.o hb8);clear hb8;go_wp2;go_ret;exact⟨rfl,HB8.o⟩
end
def CpRel{κ ν:Type}(R:World→(κ→Bool)→Nat→Prop)(D:World→Nat→(κ→Option ν)→Prop)(f:κ→Option ν)(w w1:World)(bd:Nat)(wr:World):Prop:=
 ∃(left:κ→Bool) (cnt:Nat) (out:List κ),Hid (R wr left cnt)∧Hid (D wr out.length (fun x=>if left x=true then none else f x))∧Hid out.Nodup∧Hid (∀ x∈out,(f x).isSome=true∧left x=false)∧Hid (w.grownBy wr (some bd))∧w1.heap.size≤wr.heap.size
theorem mcopyV_any(bd bs n m:Nat)(f:VidM→Option VertM)(w:World)(hd:VMap w bd 0 (fun _=>none))(hs:VMap w bs n f)(hm:∀ l:List VidM,l.Nodup→(∀ x∈l,(f x).isSome=true)→l.length≤m)(hm2:m≤1000000)(hne:bd≠bs) :
  Calls Tryz.prog 67 #[.map (some bd),.map (some bs)] w fun e w'=>e=.returned (.tuple #[])∧VMap w' bd m f∧w.grownBy w' (some bd):=by
 have HD:=Lh hd;have HS:=Lh hs;have HM:=Lh hm;have HKK:=Lh (@keysVid);have ld:=hd.lt;have ls:=hs.lt;clear hd hs hm;go_enter Tryz.func67,Tryz.ntmps67;go_wp2_with (refine wpList_trange keysVid rfl _ _ rfl Tryz.underlying115 bs n _ rfl HS.o ?_;intro w1 cnt hR hg1 hs1);have HR:=Lh hR;have HD1:Hid (VMap w1 bd 0 (fun x=>if(f x).isSome=true then none else f x)):=Lh ((HD.o.kept hg1 (by simp)).congr fun x _=>by cases f x <;> rfl);have HG1:=Lh (show w.grownBy w1 (some bd) from⟨hg1.os,hg1.tape,hg1.output,hg1.size,fun k hk _=>hg1.block k hk (by simp)⟩);clear hR hg1;go_simp;go_loopw [] (fun wr=>CpRel (fun wr left cnt=>TRanges Tryz.prog 74 vidV okAll vertV wr bs w.heap.size n f left cnt) (fun wr k g=>VMap wr bd k g) f w w1 bd wr) (fun wr=>wr.rangeLeft bs w.heap.size)
 case atStart=>exact⟨_,cnt,[],HR,HD1,Lh (by simp),Lh (fun x hx=>absurd hx List.not_mem_nil),HG1,Nat.le_refl _⟩
 obtain⟨left,cnt1,out,HR1,HDr,HN,HO,HGr,hsr⟩:=hrel;rename World=>wr;have hle:=HR1.o.left_eq;have hfew:=HM.o out HN.o fun x hx=>(HO.o x hx).1;go_wp2_with (refine wpList_tnext keysVid rfl _ rfl bs w.heap.size n _ left cnt1 rfl HR1.o ?_ ?_)
 · intro hall;have HE:Hid (VMap wr bd m f):=Lh ((HDr.o.congr fun x hx=>by rw [if_neg (by rw [hall x trivial];decide)]).mono hfew);clear hall;go_wp2;go_end0;exact⟨rfl,HE.o,HGr.o⟩
 intro x y w3 cnt2 hx hl hy hR3 hcl hg3 hs3 hent;clear hx;have HR3:=Lh hR3;have HY:=Lh hy;have HX:=Lh hl;have HD3:=Lh (HDr.o.kept hg3 (by simp;omega));have HG3:Hid (w.grownBy w3 (some bd)):=Lh ⟨hg3.os.trans HGr.o.os,hg3.tape.trans HGr.o.tape,hg3.output.trans HGr.o.output,Nat.le_trans HGr.o.size hg3.size,fun k hk hn=>(hg3.block k (Nat.lt_of_lt_of_le hk HGr.o.size) fun q=>by have:k=w.heap.size:=Option.some.inj q;omega).trans (HGr.o.block k hk hn)⟩;clear hR3 hy hl hg3;unfold vidV vertV at hent;go_upto_region 3 with fail;have hA7:=(anw w3 (cV x) 74).alloc (.cells (cX y) 101);have hF7:=an2 w3 (.cells (cV x) 74) (cX y) 101;rw [hs3] at hA7 hF7;have HA7:=Lh hA7;have HF7:=Lh hF7;clear hA7 hF7;have HB7:=Lh ((bnew (w:=w3) (.cells (cV x) 74)).alloc (by simp) (.cells (cX y) 101));generalize (w3.alloc (.cells (cV x) 74)).alloc (.cells (cX y) 101)=w7 at *;clear hent;have hs7:=HB7.o.size;have HR7:=Lh (HR3.o.kept (below_none HB7.o) (by simp) (by simp));have HD7:=Lh (HD3.o.over HB7.o);have HG7:Hid (w.grownBy w7 (some bd)):=Lh (gtr HG3.o ⟨HB7.o.os,HB7.o.tape,HB7.o.output,HB7.o.size,fun k hk _=>HB7.o.block k hk⟩);have hol:out.length<maxLen:=by unfold maxLen;omega
 obtain⟨k0,k1,k2,sk⟩:=HA7.o.c3;obtain⟨v0,v1,v2,v3,v4,v5,v6,v7,v8,sv⟩:=HF7.o.c9;go_wp2_with (refine wpList_tstore keysVid vertV_inj rfl _ _ _ _ rfl Tryz.underlying115 bd out.length _ rfl HD7.o hol x rfl trivial y rfl ?_;intro w8 hm8 hg8 hs8);have HR8:=Lh (HR7.o.kept hg8 (fun q=>hne (Option.some.inj q).symm) (by simp;omega));have hle8:=HR8.o.left_eq;have HD8:Hid (VMap w8 bd (out++[x]).length (fun z=>if(left z && !decide (z=x))=true then none else f z)):=Lh (by
  rw [List.length_append,List.length_singleton];refine hm8.congr fun z _ => ?_;unfold updM
  by_cases hz:z=x
  · subst hz;simp [HY.o]
  simp [hz])
 have HN8:Hid (out++[x]).Nodup:=Lh (List.nodup_append.2 ⟨HN.o,by simp,fun a ha b hb e=>by have h1:=(HO.o a ha).2;rw [e,List.mem_singleton.1 hb,HX.o] at h1;cases h1⟩);have HO8:Hid (∀ z∈out++[x],(f z).isSome=true∧(left z && !decide (z=x))=false):=Lh fun z hz=>by
  rcases List.mem_append.1 hz with hz|hz
  · exact⟨(HO.o z hz).1,by rw [(HO.o z hz).2];rfl⟩
  rw [List.mem_singleton.1 hz];exact⟨by rw [HY.o];rfl,by simp⟩
 have HG8:=Lh (gtr HG7.o hg8);clear hm8 hg8;go_roundw
 case rel=>exact⟨_,cnt2,out++[x],HR8,HD8,HN8,HO8,HG8,by omega⟩
 omega
theorem mcopyE_any(bd bs n m:Nat)(f:EdgeM→Option VidM)(w:World)(hd:EMap w bd 0 (fun _=>none))(hs:EMap w bs n f)(hm:∀ l:List EdgeM,l.Nodup→(∀ x∈l,(f x).isSome=true)→l.length≤m)(hm2:m≤1000000)(hne:bd≠bs) :
  Calls Tryz.prog 68 #[.map (some bd),.map (some bs)] w fun e w'=>e=.returned (.tuple #[])∧EMap w' bd m f∧w.grownBy w' (some bd):=by
 have HD:=Lh hd;have HS:=Lh hs;have HM:=Lh hm;have HKK:=Lh (@keysEdge);have ld:=hd.lt;have ls:=hs.lt;clear hd hs hm;go_enter Tryz.func68,Tryz.ntmps68;go_wp2_with (refine wpList_trange keysEdge rfl _ _ rfl Tryz.underlying116 bs n _ rfl HS.o ?_;intro w1 cnt hR hg1 hs1);have HR:=Lh hR;have HD1:Hid (EMap w1 bd 0 (fun x=>if(f x).isSome=true then none else f x)):=Lh ((HD.o.kept hg1 (by simp)).congr fun x _=>by cases f x <;> rfl);have HG1:=Lh (show w.grownBy w1 (some bd) from⟨hg1.os,hg1.tape,hg1.output,hg1.size,fun k hk _=>hg1.block k hk (by simp)⟩);clear hR hg1;go_simp;go_loopw [] (fun wr=>CpRel (fun wr left cnt=>TRanges Tryz.prog 133 edgeV okAll vidV wr bs w.heap.size n f left cnt) (fun wr k g=>EMap wr bd k g) f w w1 bd wr) (fun wr=>wr.rangeLeft bs w.heap.size)
 case atStart=>exact⟨_,cnt,[],HR,HD1,Lh (by simp),Lh (fun x hx=>absurd hx List.not_mem_nil),HG1,Nat.le_refl _⟩
 obtain⟨left,cnt1,out,HR1,HDr,HN,HO,HGr,hsr⟩:=hrel;rename World=>wr;have hle:=HR1.o.left_eq;have hfew:=HM.o out HN.o fun x hx=>(HO.o x hx).1;go_wp2_with (refine wpList_tnext keysEdge rfl _ rfl bs w.heap.size n _ left cnt1 rfl HR1.o ?_ ?_)
 · intro hall;have HE:Hid (EMap wr bd m f):=Lh ((HDr.o.congr fun x hx=>by rw [if_neg (by rw [hall x.1 x.2 trivial];decide)]).mono hfew);clear hall;go_wp2;go_end0;exact⟨rfl,HE.o,HGr.o⟩
 intro x1 x2 y w3 cnt2 hx hl hy hR3 hcl hg3 hs3 hent;obtain⟨x,hxx⟩:∃ x:EdgeM,x=(x1,x2):=⟨_,rfl⟩;have e1:x1=x.1:=by rw [hxx]
 have e2:x2=x.2:=by rw [hxx]
 rw [← hxx] at hl hy hR3;rw [e1,e2] at hent;clear hxx e1 e2 hx;have HR3:=Lh hR3;have HY:=Lh hy;have HX:=Lh hl;have HD3:=Lh (HDr.o.kept hg3 (by simp;omega));have HG3:Hid (w.grownBy w3 (some bd)):=Lh ⟨hg3.os.trans HGr.o.os,hg3.tape.trans HGr.o.tape,hg3.output.trans HGr.o.output,Nat.le_trans HGr.o.size hg3.size,fun k hk hn=>(hg3.block k (Nat.lt_of_lt_of_le hk HGr.o.size) fun q=>by have:k=w.heap.size:=Option.some.inj q;omega).trans (HGr.o.block k hk hn)⟩;clear hR3 hy hl hg3;unfold edgeV vidV at hent;go_upto_region 3 with fail;have hA7:=(anw w3 #[.int .u8 x.1.pid.author.toNat,.int .u16 x.1.pid.seq.toNat,.int .u8 x.1.n.toNat,.int .u8 x.2.pid.author.toNat,.int .u16 x.2.pid.seq.toNat,.int .u8 x.2.n.toNat] 133).alloc (.cells (cV y) 74);have hF7:=an2 w3 (.cells #[.int .u8 x.1.pid.author.toNat,.int .u16 x.1.pid.seq.toNat,.int .u8 x.1.n.toNat,.int .u8 x.2.pid.author.toNat,.int .u16 x.2.pid.seq.toNat,.int .u8 x.2.n.toNat] 133) (cV y) 74;rw [hs3] at hA7 hF7;have HA7:=Lh hA7;have HF7:=Lh hF7;clear hA7 hF7;have HB7:=Lh ((bnew (w:=w3) (.cells #[.int .u8 x.1.pid.author.toNat,.int .u16 x.1.pid.seq.toNat,.int .u8 x.1.n.toNat,.int .u8 x.2.pid.author.toNat,.int .u16 x.2.pid.seq.toNat,.int .u8 x.2.n.toNat] 133)).alloc (by simp) (.cells (cV y) 74));generalize (w3.alloc (.cells #[.int .u8 x.1.pid.author.toNat,.int .u16 x.1.pid.seq.toNat,.int .u8 x.1.n.toNat,.int .u8 x.2.pid.author.toNat,.int .u16 x.2.pid.seq.toNat,.int .u8 x.2.n.toNat] 133)).alloc (.cells (cV y) 74)=w7 at *;clear hent;have hs7:=HB7.o.size;have HR7:=Lh (HR3.o.kept (below_none HB7.o) (by simp) (by simp));have HD7:=Lh (HD3.o.over HB7.o);have HG7:Hid (w.grownBy w7 (some bd)):=Lh (gtr HG3.o ⟨HB7.o.os,HB7.o.tape,HB7.o.output,HB7.o.size,fun k hk _=>HB7.o.block k hk⟩);have hol:out.length<maxLen:=by unfold maxLen;omega
 obtain⟨k0,k1,k2,k3,k4,k5,sk⟩:=HA7.o.c6;obtain⟨v0,v1,v2,sv⟩:=HF7.o.c3;go_wp2_with (refine wpList_tstore keysEdge vidV_inj rfl _ _ _ _ rfl Tryz.underlying116 bd out.length _ rfl HD7.o hol x rfl trivial y rfl ?_;intro w8 hm8 hg8 hs8);have HR8:=Lh (HR7.o.kept hg8 (fun q=>hne (Option.some.inj q).symm) (by simp;omega));have hle8:=HR8.o.left_eq;have HD8:Hid (EMap w8 bd (out++[x]).length (fun z=>if(left z && !decide (z=x))=true then none else f z)):=Lh (by
  rw [List.length_append,List.length_singleton];refine hm8.congr fun z _ => ?_;unfold updM
  by_cases hz:z=x
  · subst hz;simp [HY.o]
  simp [hz])
 have HN8:Hid (out++[x]).Nodup:=Lh (List.nodup_append.2 ⟨HN.o,by simp,fun a ha b hb e=>by have h1:=(HO.o a ha).2;rw [e,List.mem_singleton.1 hb,HX.o] at h1;cases h1⟩);have HO8:Hid (∀ z∈out++[x],(f z).isSome=true∧(left z && !decide (z=x))=false):=Lh fun z hz=>by
  rcases List.mem_append.1 hz with hz|hz
  · exact⟨(HO.o z hz).1,by rw [(HO.o z hz).2];rfl⟩
  rw [List.mem_singleton.1 hz];exact⟨by rw [HY.o];rfl,by simp⟩
 have HG8:=Lh (gtr HG7.o hg8);clear hm8 hg8;go_roundw
 case rel=>exact⟨_,cnt2,out++[x],HR8,HD8,HN8,HO8,HG8,by omega⟩
 omega
theorem few_verts{L:List PatchM}(hw:WfG L):∀ l:List VidM,l.Nodup→(∀ x∈l,(vertM L x).isSome=true)→l.length≤(idsM L).length:=fun l hn h =>
 nodup_len hn fun v hv=>(mem_idsM (wf_len hw) v).2 (h v hv)
theorem few_edgesG(L:List PatchM):∀ l:List EdgeM,l.Nodup→(∀ x∈l,(edgeM L x).isSome=true)→l.length≤(edgesM L).length:=fun l hn h =>
 nodup_len hn fun e he=>by
  rw [mem_edgesM];have h1:=h e he;unfold edgeM at h1;split at h1
  · assumption
  · cases h1
theorem vert_nil0(x:VidM):vertM [] x=none:=rfl
theorem edge_nil0(x:EdgeM):edgeM [] x=none:=rfl
def CopyRes(w:World)(L:List PatchM)(m:Nat)(e:Ending)(w':World):Prop:=∃ b bv be,e=.returned (.pointer (some ⟨b,0,none⟩))∧w.heap.size≤b∧w.heap.size≤bv∧w.heap.size≤be∧GrW w' b bv be m (vecM L) (vertM L) (edgeM L)∧Be w w'
attribute [local irreducible] vecM vecL vertM edgeM idsM edgesM
theorem gcopy_any(b:Nat)(L:List PatchM)(m:Nat)(w:World)(hg:GrIs w b L)(hw:WfG L)(hi:(idsM L).length≤m)(he:(edgesM L).length≤m)(hm:m≤1000000) :
  Calls Tryz.prog 26 #[.pointer (some ⟨b,0,none⟩)] w (CopyRes w L m):=by
 obtain⟨bv,be,n,hG⟩:=hg;have HG:=Lh hG;have HW:=Lh hw;have HFV:=Lh (few_verts hw);have HFE:=Lh (few_edgesG L);have lb:=hG.arr.lt;have lbv:=hG.verts.lt;have lbe:=hG.edges.lt;clear hG hw;go_enter Tryz.func26,Tryz.ntmps26;go_wp2_with fail;refine(gnew_any w).mono ?_;rintro e w1 ⟨b2,v2,e2,rfl,k1,k2,k3,hG2,hb1⟩;have HV2:Hid (VMap w1 v2 0 (fun _=>none)):=Lh (hG2.verts.congr fun x _=>vert_nil0 x);have HE2:Hid (EMap w1 e2 0 (fun _=>none)):=Lh (hG2.edges.congr fun x _=>edge_nil0 x);have HA2:Hid (Arr w1 b2 (vecL (vecM [])++[.map (some v2),.map (some e2)])):=Lh hG2.arr;have hne:=hG2.ne;have lb2:=hG2.arr.lt;have lv2:=hG2.verts.lt;have le2:=hG2.edges.lt;have HGo:=Lh (HG.o.over hb1);have HAo:Hid (Arr w1 b (vecL (vecM L)++[.map (some bv),.map (some be)])):=Lh (HG.o.over hb1).arr;have HB1:=Lh hb1;have hs1:=hb1.size;have n1:¬ b2=v2:=fun q=>hG2.verts.ne_arr hG2.arr q;have n2:¬ b2=e2:=fun q=>hG2.edges.ne_arr hG2.arr q;clear hG2 hb1;go_wp2_with (first|((with_reducible show wpList _ _ _ ({dst:=_,op:=.load _ _,type:=_,pos:=_,after:=_,guard:=_} :: _) _ _);refine wpList_load_part agg_vec size_vec rfl _ rfl b (vecL (vecM L)) [.map (some bv),.map (some be)] HAo.o rfl (vecL_len _) ?_)|(refine wpList_store_part rowVec rfl _ _ rfl b2 (vecL (vecM [])) [.map (some v2),.map (some e2)] (vecL (vecM L)) HA2.o rfl rfl (vecL_len _) (vecL_len _) (vecL_one _) ?_;intro hA3 hg3 hs3;generalize w1.setRow b2 (vecL (vecM L)++[Value.map (some v2),Value.map (some e2)]).toArray=w3 at *));have HA3:Hid (Arr w3 b2 (gCells (vecM L) v2 e2)):=Lh hA3;have HB3:=Lh (HB1.o.grown hg3 HB1.o.size (fun j hj=>by cases hj;exact k1));have HV3:=Lh (HV2.o.kept hg3 (fun q=>n1 (Option.some.inj q).symm));have HE3:=Lh (HE2.o.kept hg3 (fun q=>n2 (Option.some.inj q).symm));have HG3:=Lh (HG.o.over HB3.o);clear hA3 hg3 HA2 HV2 HE2 HGo HAo HB1;have p64:=HA3.o.cell (gCells_v (vecM L) v2 e2);have sp:=HA3.o.lt;have q64:=HG3.o.arr.cell (gCells_v (vecM L) bv be);have sq:=HG3.o.arr.lt;have n3:¬ b=v2:=by omega
 have n4:¬ b=e2:=by omega
 clear hs3;go_simp;have hcur:World.grownBy w3 w3.drew (some v2):=⟨rfl,rfl,rfl,Nat.le_refl _,fun _ _ _=>rfl⟩;refine wlex (C:=IsKept w3 (some v2)) 9 [] (by kernel_rfl) (by kernel_rfl) (isKept_of hcur) ?_;simp only [Tsc,Tz,Dsc,Dz];repeat(first|refine lxq ?_|(refine lxl rfl ?_;go_wp2_with (first|(go_at_call 67;(with_reducible refine(mcopyV_any v2 bv n (idsM L).length (vertM L) _ HV3.o.drew HG3.o.verts.drew HFV.o (by omega) (by omega)).mono ?_);rintro e w4 ⟨rfl,hv4,hg4⟩;have HV4:=Lh hv4;replace hcur:=gtr hcur hg4;clear hv4 hg4));refine⟨isKept_of (by first|exact hcur|exact only_alloc hcur _|exact gtr hcur (gsc _ _ _)|exact gtr (gtr hcur (gsc _ _ _)) (gsc _ _ _)),?_⟩))
 refine lxe ?_;have HA4:=Lh (HA3.o.grown hcur (fun q=>n1 (Option.some.inj q)));have HE4:=Lh (HE3.o.kept hcur (fun q=>hne (Option.some.inj q).symm));have HB4:=Lh (HB3.o.grown hcur HB3.o.size (fun j hj=>by cases hj;exact k2));have HG4:=Lh (HG.o.over HB4.o);clear hcur p64 sp q64 sq HG3 HV3 HE3 HA3;have p65:=HA4.o.cell (gCells_e (vecM L) v2 e2);have sp:=HA4.o.lt;have q65:=HG4.o.arr.cell (gCells_e (vecM L) bv be);have sq:=HG4.o.arr.lt;go_upto_region 6 with fail;have hcur:World.grownBy w4 w4.drew (some e2):=⟨rfl,rfl,rfl,Nat.le_refl _,fun _ _ _=>rfl⟩;refine wlex (C:=IsKept w4 (some e2)) 9 [] (by kernel_rfl) (by kernel_rfl) (isKept_of hcur) ?_;simp only [Tsc,Tz,Dsc,Dz];repeat(first|refine lxq ?_|(refine lxl rfl ?_;go_wp2_with (first|(go_at_call 68;(with_reducible refine(mcopyE_any e2 be n (edgesM L).length (edgeM L) _ HE4.o.drew HG4.o.edges.drew HFE.o (by omega) (by omega)).mono ?_);rintro e w5 ⟨rfl,he5,hg5⟩;have HE5:=Lh he5;replace hcur:=gtr hcur hg5;clear he5 hg5));refine⟨isKept_of (by first|exact hcur|exact only_alloc hcur _|exact gtr hcur (gsc _ _ _)|exact gtr (gtr hcur (gsc _ _ _)) (gsc _ _ _)),?_⟩))
 refine lxe ?_;have HA5:=Lh (HA4.o.grown hcur (fun q=>n2 (Option.some.inj q)));have HV5:=Lh (HV4.o.kept hcur (fun q=>hne (Option.some.inj q)));have HB5:=Lh (HB4.o.grown hcur HB4.o.size (fun j hj=>by cases hj;exact k3));clear hcur p65 sp q65 sq;go_wp2;go_ret;exact⟨b2,v2,e2,rfl,k1,k2,k3,⟨HA5.o,HV5.o.mono hi,HE5.o.mono he,hne⟩,HB5.o⟩
end Go.Proofs.YtjccmcgglfncdaaGreatDoor
