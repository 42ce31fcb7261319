/- What is proved: MergeTurns, for every input; of the listed tables the walk needs the powers of ten. -/
import Derived.Test.YtjccmcgglfncdaaGreatDoorUNmA
import Derived.Test.YtjccmcgglfncdaaGreatDoorURefF
set_option linter.unusedVariables false
set_option linter.unusedSimpArgs false
set_option maxRecDepth 100000
set_option maxHeartbeats 40000000
namespace Go.Proofs.YtjccmcgglfncdaaGreatDoor
open Go Go.RowKit
section
variable{x:EdgeM}{left:EdgeM→Bool}{out:List EdgeM}{L:List PatchM}{q:VidM→Bool}
theorem or_lexE(A B m n:Nat)(h1:m<4294967296)(h2:n<4294967296):orI (cmpN A B) (cmpN m n)=cmpN (A*4294967296+m) (B*4294967296+n):=by
 unfold orI;rcases Nat.lt_trichotomy A B with h|h|h
 ·
  have h3:A*4294967296+m<B*4294967296+n:=by omega
  rw [cmpN_lt h,cmpN_lt h3,if_neg (by decide)]
 ·
  subst h;rw [cmpN_eq rfl,if_pos rfl];rcases Nat.lt_trichotomy m n with h3|h3|h3
  · have h4:A*4294967296+m<A*4294967296+n:=(by omega);rw [cmpN_lt h3,cmpN_lt h4]
  · subst h3;rw [cmpN_eq rfl,cmpN_eq rfl]
  have h4:A*4294967296+n<A*4294967296+m:=by omega
  rw [cmpN_gt h3,cmpN_gt h4]
 have h3:B*4294967296+n<A*4294967296+m:=by omega
 rw [cmpN_gt h,cmpN_gt h3,if_neg (by decide)]
def edgeCmp(a b:EdgeM):Int:=cmpN (edgeKey a) (edgeKey b)
theorem edge_or(a b:EdgeM):orI (cmpVid a.1 b.1) (cmpVid a.2 b.2)=edgeCmp a b:=or_lexE _ _ _ _ (packVid_lt a.2) (packVid_lt b.2)
theorem oneEdge:∀ x:EdgeM,∀ v∈encEdge x,v.oneCell'=true:=fun x v hv=>by simp [encEdge,encVid] at hv;rcases hv with rfl|rfl|rfl|rfl|rfl|rfl <;> rfl
attribute [local irreducible] cmpVid orI edgeCmp
theorem stepCmpG(a b:EdgeM)(w:World):Calls Tryz.prog 205 #[edgeV a,edgeV b] w fun e w'=>e=.returned (.int .i64 (edgeCmp a b))∧Grew w w':=by
 have HA:=Lh ((anw w #[.int .u8 a.1.pid.author.toNat,.int .u16 a.1.pid.seq.toNat,.int .u8 a.1.n.toNat,.int .u8 a.2.pid.author.toNat,.int .u16 a.2.pid.seq.toNat,.int .u8 a.2.n.toNat] 133).alloc (.cells #[.int .u8 b.1.pid.author.toNat,.int .u16 b.1.pid.seq.toNat,.int .u8 b.1.n.toNat,.int .u8 b.2.pid.author.toNat,.int .u16 b.2.pid.seq.toNat,.int .u8 b.2.n.toNat] 133));have HC:=Lh (an2 w (.cells #[.int .u8 a.1.pid.author.toNat,.int .u16 a.1.pid.seq.toNat,.int .u8 a.1.n.toNat,.int .u8 a.2.pid.author.toNat,.int .u16 a.2.pid.seq.toNat,.int .u8 a.2.n.toNat] 133) #[.int .u8 b.1.pid.author.toNat,.int .u16 b.1.pid.seq.toNat,.int .u8 b.1.n.toNat,.int .u8 b.2.pid.author.toNat,.int .u16 b.2.pid.seq.toNat,.int .u8 b.2.n.toNat] 133);have HB:=Lh (((Grew.refl w).alloc (.cells #[.int .u8 a.1.pid.author.toNat,.int .u16 a.1.pid.seq.toNat,.int .u8 a.1.n.toNat,.int .u8 a.2.pid.author.toNat,.int .u16 a.2.pid.seq.toNat,.int .u8 a.2.n.toNat] 133)).alloc (.cells #[.int .u8 b.1.pid.author.toNat,.int .u16 b.1.pid.seq.toNat,.int .u8 b.1.n.toNat,.int .u8 b.2.pid.author.toNat,.int .u16 b.2.pid.seq.toNat,.int .u8 b.2.n.toNat] 133));have HV:=Lh (edge_or a b);unfold edgeV;go_enter Tryz.func205,Tryz.ntmps205;go_upto_region 1 with fail;generalize (w.alloc (.cells #[.int .u8 a.1.pid.author.toNat,.int .u16 a.1.pid.seq.toNat,.int .u8 a.1.n.toNat,.int .u8 a.2.pid.author.toNat,.int .u16 a.2.pid.seq.toNat,.int .u8 a.2.n.toNat] 133)).alloc (.cells #[.int .u8 b.1.pid.author.toNat,.int .u16 b.1.pid.seq.toNat,.int .u8 b.1.n.toNat,.int .u8 b.2.pid.author.toNat,.int .u16 b.2.pid.seq.toNat,.int .u8 b.2.n.toNat] 133)=w0 at *;obtain⟨c0,c1,c2,c3,c4,c5,sc⟩:=HA.o.c6;obtain⟨d0,d1,d2,d3,d4,d5,sd⟩:=HC.o.c6;have hcur:Grew w0 w0.drew:=(Grew.refl _).drew;refine wlex (C:=IsGrew w0) 13 [] (by kernel_rfl) (by kernel_rfl) (isGrew_of hcur) ?_;simp only [Tsc,Tz,Dsc,Dz];repeat(first|refine lxq ?_|(refine lxl rfl ?_;go_wp2_with (first|(go_at_call 90;(first|(with_reducible refine(vcmpG a.1 b.1 _).mono ?_)|(with_reducible refine(vcmpG a.2 b.2 _).mono ?_));rintro e w' ⟨rfl,hb⟩;replace hcur:=hcur.trans hb;clear hb)|(go_at_call 206;refine(orInt_any _ _ _ _ (anw _ _ _)).mono ?_;rintro e w' ⟨rfl,rfl⟩));refine⟨isGrew_of (by first|exact hcur|exact hcur.alloc _),?_⟩))
 refine lxe ?_;go_wp2;go_ret;exact⟨ret_int HV.o,HB.o.trans (by first|exact hcur|exact hcur.alloc _)⟩
theorem edgeCmp_neg(a b:EdgeM):(edgeCmp a b<0)=(edgeKey a<edgeKey b):=by unfold edgeCmp;exact cmpN_neg _ _
theorem sortEdge_any{w:World}{B g cap:Nat}{xs:List EdgeM}(h:OwnAt w B 133 6 g xs.length cap (xs.flatMap encEdge))(hn:xs.length≤1000000000) :
  Calls Tryz.prog 204 #[.slice (some ⟨g,0,none⟩) xs.length cap,.func (.func 205) #[] #[]] w (SortRes edgeCmp encEdge 6 133 w B g cap xs):=by have hcon:=sortF_any (P:=Tryz.prog) Tryz.sortEdge (k:=6) (enc:=encEdge) Tryz.isAgg133 Tryz.sizeOf133 (fun _=>rfl) oneEdge edgeCmp (swo_key edgeKey _ edgeCmp_neg) 205 (enters_of Tryz.func205 (by kernel_rfl) rfl) (fun x y W=>stepCmpG x y W) h (by omega);exact hcon
theorem sortEdge_none(p:Option Addr)(cap:Nat)(fv:Value)(w:World) :
  Calls Tryz.prog 204 #[.slice p 0 cap,fv] w fun e w'=>e=.returned (.tuple #[])∧w'=w:=sortF_none Tryz.sortEdge p cap fv w
theorem stepsFn_any(f file:VidM)(gf:Nat)(w:World)(hF:Arr w gf [.int .u8 file.pid.author.toNat,.int .u16 file.pid.seq.toNat,.int .u8 file.n.toNat]) :
  Calls Tryz.prog 154 #[vidV f,.pointer (some ⟨gf,0,none⟩)] w fun e w'=>e=.returned (.bool (decide (f=file)))∧Be w w':=by
 have HX:=Lh (anw w (cV f) 74);have HB:=Lh (bnew (w:=w) (.cells (cV f) 74));have HF:=Lh (hF.alloc (.cells (cV f) 74));have gd:=fun p q xs ys w=>guard_vid .eql p q xs ys w;clear hF;unfold vidV;go_enter Tryz.func154,Tryz.ntmps154;go_upto_region 1 with fail;generalize w.alloc (.cells (cV f) 74)=w0 at *;obtain⟨c0,c1,c2,sc⟩:=HX.o.c3;obtain⟨f0,f1,f2,sf⟩:=HF.o.c3;obtain⟨b,h2⟩:∃ b,decide (f=file)=b:=⟨_,rfl⟩;have H2:=Lh h2;cases b with
 | true =>have e2:=eql_vid f file true h2;unfold vidV at e2;clear h2;go_wp2;go_ret;exact⟨rvb H2.o,HB.o⟩
 | false =>have e2:=eql_vid f file false h2;unfold vidV at e2;clear h2;go_wp2;go_ret;exact⟨rvb H2.o,HB.o⟩
def StepRel(q:VidM→Bool)(L:List PatchM)(w w1:World)(be it n:Nat)(v:Value)(wr:World):Prop:=
 ∃(left:EdgeM→Bool) (cnt:Nat) (out:List EdgeM),Hid (TRanges Tryz.prog 133 edgeV okAll vidV wr be it n (edgeM L) left cnt)∧Hid (GOwn encEdge 6 133 wr w1.heap.size v out) ∧
  Hid (∀ e,e∈out↔(∃ v,edgeM L e=some v∧q v=true)∧left e=false)∧Hid out.Nodup∧Hid (Be w wr)∧w1.heap.size≤wr.heap.size
theorem st_take(h:∀ e,e∈out↔(∃ v,edgeM L e=some v∧q v=true)∧left e=false){y:VidM}(hy:edgeM L x=some y)(hq:q y=true)(e:EdgeM) :
  e∈out++[x]↔(∃ v,edgeM L e=some v∧q v=true)∧(left e && !decide (e=x))=false:=by
 rw [List.mem_append,List.mem_singleton,h e]
 by_cases hx:e=x
 · subst hx;simp [hy,hq]
 simp [hx]
theorem st_skip(h:∀ e,e∈out↔(∃ v,edgeM L e=some v∧q v=true)∧left e=false){y:VidM}(hy:edgeM L x=some y)(hq:q y=false)(e:EdgeM) :
  e∈out↔(∃ v,edgeM L e=some v∧q v=true)∧(left e && !decide (e=x))=false:=by
 rw [h e]
 by_cases hx:e=x
 · subst hx;simp [hy,hq]
 simp [hx]
theorem st_new(h:∀ e,e∈out↔(∃ v,edgeM L e=some v∧q v=true)∧left e=false)(hn:out.Nodup)(hl:left x=true):(out++[x]).Nodup:=by rw [List.nodup_append];refine⟨hn,by simp,fun a ha b hb e => ?_⟩;simp at hb;have:=((h a).1 ha).2;rw [e,hb,hl] at this;cases this
theorem st_few(h:∀ e,e∈out↔(∃ v,edgeM L e=some v∧q v=true)∧left e=false)(hn:out.Nodup):out.length≤(edgesM L).length:=
 nodup_len hn fun e he=>by
  rw [mem_edgesM];obtain⟨⟨v,h1,_⟩,_⟩:=(h e).1 he;unfold edgeM at h1;split at h1
  · assumption
  · cases h1
theorem st_sorted{ys:List EdgeM}(h:∀ e,e∈out↔(∃ v,edgeM L e=some v∧q v=true)∧left e=false)(hn:out.Nodup)(hall:∀ e,left e=false)
  (hp:ys.Perm out) (hs:ys.Pairwise fun a b=>¬ edgeCmp b a<0):ys=(edgesM L).filter fun e=>q (fileAt L e.1):=by
 refine edges_eq q ?_ fun e=>by rw [hp.mem_iff,h e];simp [hall]
 have hnd:ys.Pairwise fun a b=>a≠b:=hp.nodup_iff.2 hn;unfold Rises;refine(hs.and hnd).imp fun {a b} hab => ?_;obtain⟨h1,h2⟩:=hab;rw [edgeCmp_neg] at h1;have:edgeKey a≠edgeKey b:=fun e=>h2 (edgeKey_hi _ _ e);omega
attribute [local irreducible] edgeM edgesM fileAt
theorem psteps_any(b:Nat)(L:List PatchM)(w:World)(hg:GrIs w b L)(hil:(edgesM L).length≤1000000)(file:VidM)(gf:Nat)(hF:Arr w gf [.int .u8 file.pid.author.toNat,.int .u16 file.pid.seq.toNat,.int .u8 file.n.toNat]) :
  Calls Tryz.prog 128 #[.pointer (some ⟨b,0,none⟩),.func (.func 154) #[] #[.pointer (some ⟨gf,0,none⟩)]] w (OwnRes encEdge 6 133 w (stepsM L file)):=by
 obtain⟨bv,be,n,hG⟩:=hg;have hlt:=hG.arr.lt;have hbe:=hG.edges.lt;have g65:=hG.arr.cell (gCells_e (vecM L) bv be);have HG:=Lh hG.edges;have HF:=Lh hF;have HST:=Lh (show(edgesM L).filter (fun e=>decide (fileAt L e.1=file))=stepsM L file from rfl);clear hG hF;go_enter Tryz.func128,Tryz.ntmps128;go_wp2_with (refine wpList_trange keysEdge rfl _ _ rfl Tryz.underlying116 be n _ rfl HG.o ?_;intro w1 cnt hR hg1 hs1);have HR:=Lh hR;have HB1:=Lh (show Be w w1 from⟨hg1.os,hg1.tape,hg1.output,hg1.size,fun k hk=>hg1.block k hk (by simp)⟩);clear hR hg1 g65;go_simp;go_loopw [5] (fun v5 wr=>StepRel (fun v=>decide (v=file)) L w w1 be w.heap.size n v5 wr) (fun _ wr=>wr.rangeLeft be w.heap.size)
 case atStart=>exact⟨_,cnt,[],HR,gown_nil _ _,Lh (fun x=>⟨fun q=>absurd q List.not_mem_nil,fun⟨⟨v,h1,_⟩,h2⟩=>by simp [h1] at h2⟩),Lh (by simp),HB1,Nat.le_refl _⟩
 obtain⟨left,cnt1,out,HR1,HO,HM,HN,HBr,hsr⟩:=hrel;rename World=>wr;have hle:=HR1.o.left_eq;have hfew:=st_few HM.o HN.o;go_wp2_with (refine wpList_tnext keysEdge rfl _ rfl be w.heap.size n _ left cnt1 rfl HR1.o ?_ ?_)
 ·
  intro hall;have HA:=Lh hall;clear hall;rcases own_cases HO.o with⟨rfl,p,c,rfl⟩|⟨hne,g,cap,rfl,hA⟩
  · have HE:=Lh (st_sorted HM.o HN.o (fun e=>HA.o e.1 e.2 trivial) (List.Perm.refl _) List.Pairwise.nil);go_wp2_with fail;refine(sortEdge_none _ _ _ _).mono ?_;rintro e w2 ⟨rfl,hw2⟩;obtain rfl:=hw2.symm;go_wp2;go_ret;exact⟨_,rfl,(by rw [← HST.o,← HE.o];exact HO.o.base (by omega)),HBr.o⟩
  have HAt:=Lh hA;clear hA;go_wp2_with fail;refine(sortEdge_any HAt.o (by omega)).mono ?_;rintro e w2 ⟨rfl,ys,hp,hs,hA2,hg2⟩;have HE:=Lh (st_sorted HM.o HN.o (fun e=>HA.o e.1 e.2 trivial) hp hs);have hyl:=hp.length_eq;rw [← hyl] at hA2;have HO2:Hid (GOwn encEdge 6 133 w2 w1.heap.size (.slice (some ⟨g,0,none⟩) out.length cap) ys):=by show World.ownsRow _ _ _ _ _ _ _;rw [← hyl];exact hA2.own
  have HG2:=Lh hg2;clear hp hs hA2 hg2 hyl;go_wp2;go_ret;exact⟨_,rfl,(by rw [← HST.o,← HE.o];exact HO2.o.base (by omega)),HBr.o.grown HG2.o HBr.o.size fun k hk=>by cases hk;have:=HAt.o.base;omega⟩
 intro x1 x2 y w2 cnt2 hx hl hy hR2 hcl hg2 hs2 hent;obtain⟨x,hxx⟩:∃ x:EdgeM,x=(x1,x2):=⟨_,rfl⟩;have e1:x1=x.1:=by rw [hxx]
 have e2:x2=x.2:=by rw [hxx]
 rw [← hxx] at hl hy hR2;rw [e1,e2] at hent;clear hxx e1 e2 hx;have HR2:=Lh hR2;have HY:=Lh hy;have HX:=Lh hl;have HO2:=Lh (show GOwn _ _ _ w2 _ _ _ from own_grown HO.o hg2 (.inr fun q=>by have:=gown_base HO.o q;omega));have HB2:Hid (Be w w2):=HBr.o.grown hg2 HBr.o.size fun k hk=>by cases hk;exact Nat.le_refl _
 clear hR2 hy hl hg2;unfold edgeV vidV at hent;go_upto_region 7 with fail;have hA7:=(anw w2 #[.int .u8 x.1.pid.author.toNat,.int .u16 x.1.pid.seq.toNat,.int .u8 x.1.n.toNat,.int .u8 x.2.pid.author.toNat,.int .u16 x.2.pid.seq.toNat,.int .u8 x.2.n.toNat] 133).alloc (.cells (cV y) 74);rw [hs2] at hA7;have HA7:=Lh hA7;have hF7:=an2 w2 (.cells #[.int .u8 x.1.pid.author.toNat,.int .u16 x.1.pid.seq.toNat,.int .u8 x.1.n.toNat,.int .u8 x.2.pid.author.toNat,.int .u16 x.2.pid.seq.toNat,.int .u8 x.2.n.toNat] 133) (cV y) 74;rw [hs2] at hF7;have HF7:=Lh hF7;clear hA7 hF7;have HB7:=Lh ((bnew (w:=w2) (.cells #[.int .u8 x.1.pid.author.toNat,.int .u16 x.1.pid.seq.toNat,.int .u8 x.1.n.toNat,.int .u8 x.2.pid.author.toNat,.int .u16 x.2.pid.seq.toNat,.int .u8 x.2.n.toNat] 133)).alloc (by simp) (.cells (cV y) 74));generalize (w2.alloc (.cells #[.int .u8 x.1.pid.author.toNat,.int .u16 x.1.pid.seq.toNat,.int .u8 x.1.n.toNat,.int .u8 x.2.pid.author.toNat,.int .u16 x.2.pid.seq.toNat,.int .u8 x.2.n.toNat] 133)).alloc (.cells (cV y) 74)=w7 at *;clear hent;have hs7:=HB7.o.size;obtain⟨y0,y1,y2,sy⟩:=HF7.o.c3;go_wp2_with fail;refine(stepsFn_any y file gf _ (HF.o.over (bvo HB2.o HB7.o))).mono ?_;rintro e w8 ⟨rfl,hb8⟩;have HB8:=Lh (bvo HB7.o hb8);have HA8:=Lh (HA7.o.over hb8);have hs8:=HB8.o.size;have HR8:=Lh (HR2.o.kept (below_none HB8.o) (by simp) (by simp));have HO8:=Lh (HO2.o.over HB8.o);have HBB8:=Lh (bvo HB2.o HB8.o);clear hb8 y0 y1 y2 sy;obtain⟨z0,z1,z2,z3,z4,z5,sz⟩:=HA8.o.c6;have hle2:=HR8.o.left_eq;cases hq:decide (y=file) with
 | false =>
  have HM2:=Lh (st_skip HM.o HY.o hq);clear hq;go_wp2;go_roundw
  case rel=>exact⟨_,cnt2,out,HR8,HO8,HM2,HN,HBB8,by omega⟩
  show World.rangeLeft _ _ _<World.rangeLeft _ _ _;omega
 | true =>
  have HM2:=Lh (st_take HM.o HY.o hq);have HN2:=Lh (st_new HM.o HN.o HX.o);have hNl:out.length+1≤1099511627776:=by omega
  have hB8:w1.heap.size≤w8.heap.size:=by omega
  clear hq;go_wp2_with (at_builtin;refine apD slEdge rfl _ _ rfl w1.heap.size _ _ (drf _) 1 _ _ _ HO8.o rfl rfl rfl rfl hNl (by decide) hB8 ?_;intro v9 w9 ho9 hg9);have HR9:=Lh (HR8.o.grow HO8.o hg9 (by omega) (by omega));have hle9:=HR9.o.left_eq;have hs9:=hg9.size;go_roundw
  case rel=>exact⟨_,cnt2,out++[x],HR9,GOwn.snoc ho9,HM2,HN2,HBB8.o.grown hg9 HBB8.o.size (fun k hk=>by have:=gown_base HO8.o hk;omega),by omega⟩
  show World.rangeLeft _ _ _<World.rangeLeft _ _ _;omega
theorem gsteps_any(b:Nat)(L:List PatchM)(file:VidM)(w:World)(hg:GrIs w b L)(hil:(edgesM L).length≤1000000) :
  Calls Tryz.prog 91 #[.pointer (some ⟨b,0,none⟩),vidV file] w (OwnRes encEdge 6 133 w (stepsM L file)):=by have HF:=Lh (anw w (cV file) 74);have HB:=Lh (bnew (w:=w) (.cells (cV file) 74));have HG:=Lh hg;clear hg;unfold vidV;go_enter Tryz.func91,Tryz.ntmps91;go_upto_region 1 with fail;generalize w.alloc (.cells (cV file) 74)=w0 at *;go_wp2_with fail;refine(psteps_any b L _ (HG.o.over HB.o) hil file w.heap.size HF.o).mono ?_;rintro e w1 ⟨v,rfl,ho,hb⟩;have HO:=Lh (ho.base HB.o.size);have HB1:=Lh (bvo HB.o hb);clear ho hb;go_wp2;go_ret;exact⟨_,rfl,HO.o,HB1.o⟩
end
variable{L:List PatchM}{w:World}
def ShAt(w:World)(s:Nat)(l:List VertM)(R:List (Nat × Nat)):Prop:=∃ lp lc r op oc,Arr w s [.slice lp l.length lc,.pointer (some ⟨r,0,none⟩),.slice op l.length oc]∧GRow encVert 9 w (.slice lp l.length lc) l∧RelAt w r l.length R∧GRow encI 1 w (.slice op l.length oc) (orderM R l.length)
theorem ShAt.over{w':World}{s:Nat}{l:List VertM}{R:List (Nat × Nat)}(h:ShAt w s l R)(hb:Be w w'):ShAt w' s l R:=by obtain⟨lp,lc,r,op,oc,h1,h2,h3,h4⟩:=h;exact⟨lp,lc,r,op,oc,h1.over hb,h2.over hb,h3.over hb,h4.over hb⟩
theorem orderM_len(R:List (Nat × Nat))(n:Nat):(orderM R n).length=n:=by have h1:=orderTo_len R n n;have h2:=whole_len (orderTo_whole R n n);unfold orderM;omega
theorem vown_form{B:Nat}{e:TypeId}{v:Value}{xs:List VertM}(h:GOwn encVert 9 e w B v xs):∃ p c,v=.slice p xs.length c:=by obtain⟨a,cap,e1,_⟩:=h.row.at encVert_len;exact⟨a,cap,e1⟩
theorem lines_few{file:VidM}(h:(idsM L).length≤65536):(linesM L file).length≤65536:=by refine Nat.le_trans (List.length_filter_le _ _) ?_;unfold vertsM;rw [List.length_map];exact h
theorem lines_rise(hw:WfG L)(file:VidM):Rises vertKey (linesM L file):=List.Pairwise.filter _ (rises_vertsM (wf_len hw))
theorem steps_few{file:VidM}(h:(edgesM L).length≤1000000):(stepsM L file).length≤1000000:=Nat.le_trans (List.length_filter_le _ _) h
theorem grown_lift{w':World}(hb:Be w w')(row:Option Nat):w.grownBy w' row:=⟨hb.os,hb.tape,hb.output,hb.size,fun i hi _=>hb.block i hi⟩
theorem linesM_eq(L:List PatchM)(file:VidM):ofM L file 3=linesM L file:=rfl
def LofRes(w:World)(l:List VertM)(R:List (Nat × Nat))(e:Ending)(w':World):Prop:=∃ s,e=.returned (.pointer (some ⟨s,0,none⟩))∧w.heap.size≤s∧ShAt w' s l R∧Be w w'
def LofL(w:World)(l:List VertM)(R:List (Nat × Nat))(e:Ending)(w':World):Prop:=∃ s,e=.returned (.pointer (some ⟨s,0,none⟩))∧w.heap.size≤s∧ShAt w' s l R∧Be w w'∧∃ lp lc v1 v2,Arr w' s [.slice lp l.length lc,v1,v2]∧GOwn encVert 9 101 w' w.heap.size (.slice lp l.length lc) l
def LoRel(w3:World)(R:List (Nat × Nat))(v7 v20:Value)(wr:World):Prop:=∃ k:Nat,k≤R.length∧v20=.int .i64 k∧Hid (GOwn encP 2 169 wr w3.heap.size v7 (R.take k))∧Hid (Be w3 wr)
theorem take_snoc{B:Nat}{e:TypeId}{v:Value}{R:List (Nat × Nat)}{k:Nat}{s:Nat × Nat}(hs:R[k]? = some s)(h:GOwn encP 2 e w B v (R.take k++[s])):GOwn encP 2 e w B v (R.take (k+1)):=by rw [take_one hs];exact h
attribute [local irreducible] placeM linesM relM stepsM orderM
def relE(ls:List VertM)(es:List EdgeM):List (Nat × Nat):=es.map fun e=>(placeM ls e.1,placeM ls e.2)
theorem lofL_gen(p:Option Addr)(ls:List VertM)(es:List EdgeM)(file:VidM)(w:World)(hof:∀ W,Be w W→Calls Tryz.prog 86 #[.pointer p,vidV file,.int .u8 3] W (OwnRes encVert 9 101 W ls))
  (hst:∀ W,Be w W→Calls Tryz.prog 91 #[.pointer p,vidV file] W (OwnRes encEdge 6 133 W es)) (hll:ls.length≤65536) (hel:es.length≤1000000) (hri:Rises vertKey ls)
  (hen:∀ e∈es,e.1∈ls.map (·.id)∧e.2∈ls.map (·.id)) (hlt:∀ s∈relE ls es,s.1<ls.length∧s.2<ls.length) :
  Calls Tryz.prog 39 #[.pointer p,vidV file] w (LofL w ls (relE ls es)):=by
 have HF:=Lh (anw w (cV file) 74);have HB:=Lh (bnew (w:=w) (.cells (cV file) 74));have HOf:=Lh hof;have HSt:=Lh hst;have hrf:(relE ls es).length≤1000000:=by unfold relE;rw [List.length_map];exact hel
 have HRLn:Hid ((relE ls es).length=es.length):=Lh (by unfold relE;rw [List.length_map]);have HRI:=Lh hri;have HAt:Hid (∀(k:Nat) (e:EdgeM),es[k]? = some e→(relE ls es)[k]? = some (placeM ls e.1,placeM ls e.2)):=Lh (fun k e h=>by unfold relE;rw [List.getElem?_map,h];rfl);have HEn:=Lh hen;have HLt:=Lh hlt;clear hof hst hri hen hlt;unfold vidV;go_enter Tryz.func39,Tryz.ntmps39;go_upto_region 1 with fail;generalize w.alloc (.cells (cV file) 74)=w0 at *;obtain⟨f0,f1,f2,sf⟩:=HF.o.c3;go_wp2_with fail;refine(HOf.o _ HB.o).mono ?_;rintro e w1 ⟨lv,rfl,ho1,hb1⟩;obtain⟨lp,lc,rfl⟩:=vown_form ho1;have HO1:=Lh ho1;have HB1:=Lh hb1;clear ho1 hb1 f0 f1 f2 sf;go_upto_region 2 with fail;have HS2:=Lh (show ArrT ((w1.alloc (.cells #[.slice lp ls.length lc,.pointer none,.slice none 0 0] 162)).alloc (.cells #[.pointer (some ⟨w1.heap.size,0,none⟩)] 90)) w1.heap.size 162 [.slice lp ls.length lc,.pointer none,.slice none 0 0] from ArrT.over (arrT_new w1 [.slice lp ls.length lc,.pointer none,.slice none 0 0] 162) (bnew _));have HC2:=Lh (show ArrT ((w1.alloc (.cells #[.slice lp ls.length lc,.pointer none,.slice none 0 0] 162)).alloc (.cells #[.pointer (some ⟨w1.heap.size,0,none⟩)] 90)) (w1.heap.size+1) 90 [.pointer (some ⟨w1.heap.size,0,none⟩)] from(show(w1.alloc (.cells #[.slice lp ls.length lc,.pointer none,.slice none 0 0] 162)).heap.size=w1.heap.size+1 by simp)▸arrT_new (w1.alloc (.cells #[.slice lp ls.length lc,.pointer none,.slice none 0 0] 162)) [.pointer (some ⟨w1.heap.size,0,none⟩)] 90);have HB2:=Lh ((bnew (w:=w1) (.cells #[.slice lp ls.length lc,.pointer none,.slice none 0 0] 162)).alloc (by simp) (.cells #[.pointer (some ⟨w1.heap.size,0,none⟩)] 90));generalize (w1.alloc (.cells #[.slice lp ls.length lc,.pointer none,.slice none 0 0] 162)).alloc (.cells #[.pointer (some ⟨w1.heap.size,0,none⟩)] 90)=w2 at *;have hs0:w.heap.size≤w1.heap.size:=Nat.le_trans HB.o.size HB1.o.size;have hsl:w1.heap.size<w2.heap.size:=HS2.o.arr.lt;obtain⟨s,hs⟩:∃ s,s=w1.heap.size:=⟨_,rfl⟩;have HS3:=HS2.o;have HC3:=HC2.o;rw [← hs] at HS3 HC3 hs0 hsl ⊢;obtain⟨c,hc⟩:∃ c,c=s+1:=⟨_,rfl⟩;rw [← hc] at HC3 ⊢;have HS:=Lh HS3;have HC:=Lh HC3;have HO2:=Lh (HO1.o.over HB2.o);have HF2:=Lh (HF.o.over (bvo HB1.o HB2.o));have HBB:=Lh (bvo HB.o (bvo HB1.o HB2.o));have hcs:c≠s:=by omega
 clear hs hc HS3 HC3 HS2 HC2 HO1;obtain⟨f0,f1,f2,sf⟩:=HF2.o.c3;go_wp2_with fail;refine(HSt.o _ HBB.o).mono ?_;rintro e w3 ⟨ev,rfl,ho3,hb3⟩;obtain⟨ep,ec,rfl,z1,z2,hce⟩:=ho3.row.at encEdge_len;unfold maxLen at z2;have HCE:=Lh hce;have HB3:=Lh hb3;have HS3:=Lh (HS.o.over hb3);have HC3:=Lh (HC.o.over hb3);have HO3:=Lh (HO2.o.over hb3);clear ho3 hb3 hce f0 f1 f2 sf;rw [← HRLn.o] at z1 ⊢;go_wp2;go_loopw [7,20] (fun v7 v20 wr=>LoRel w3 (relE ls es) v7 v20 wr) (fun _ v20 _=>(relE ls es).length - (intOf v20).toNat)
 case atStart=>exact⟨0,by omega,rfl,Lh (by rw [List.take_zero];exact gown_nil _ _),Below.refl _ _⟩
 obtain⟨k,hk,rfl,HM,hbl⟩:=hrel;rename World=>wr
 by_cases hlt:k<(relE ls es).length
 ·
  obtain⟨b3,off3,rfl,sb3,hcb⟩:=HCE.o.resolve_left (by rw [← HRLn.o];omega);obtain⟨x,hx⟩:=gol (xs:=es) (i:=k) (by rw [← HRLn.o];exact hlt);have HX:=Lh (HAt.o k x hx);obtain⟨hm1,hm2⟩:=HEn.o x (List.mem_of_getElem? hx);have HM1:=Lh hm1;have HM2:=Lh hm2;have HRx:=Lh (hcb k x hx wr hbl.o);obtain⟨x0,x1,x2,x3,x4,x5,sx⟩:=rc6 HRx.o;clear hcb hx hm1 hm2;go_upto_region 7 with fail;have HA7:=Lh (anw wr #[.int .u8 x.1.pid.author.toNat,.int .u16 x.1.pid.seq.toNat,.int .u8 x.1.n.toNat,.int .u8 x.2.pid.author.toNat,.int .u16 x.2.pid.seq.toNat,.int .u8 x.2.n.toNat] 133);have HB7:=Lh (bnew (w:=wr) (.cells #[.int .u8 x.1.pid.author.toNat,.int .u16 x.1.pid.seq.toNat,.int .u8 x.1.n.toNat,.int .u8 x.2.pid.author.toNat,.int .u16 x.2.pid.seq.toNat,.int .u8 x.2.n.toNat] 133));generalize wr.alloc (.cells #[.int .u8 x.1.pid.author.toNat,.int .u16 x.1.pid.seq.toNat,.int .u8 x.1.n.toNat,.int .u8 x.2.pid.author.toNat,.int .u16 x.2.pid.seq.toNat,.int .u8 x.2.n.toNat] 133)=w7 at *;clear x0 x1 x2 x3 x4 x5 sx;have HM7:=Lh (HM.o.over HB7.o);have hb7:=bvo hbl.o HB7.o;have HS7:=Lh (HS3.o.over hb7);have HC7:=Lh (HC3.o.over hb7);have HO7:=Lh (HO3.o.over hb7);have HBl7:=Lh hb7;have hB7:=hb7.size;have hN7:((relE ls es).take k).length+1≤1099511627776:=by rw [List.length_take];omega
  clear hb7;obtain⟨y0,y1,y2,y3,y4,y5,sy⟩:=HA7.o.c6;refine wlo 11 fun hcur=>?_;repeat(first|refine lxq ?_|(refine lxl rfl ?_;go_wp2_with (first|(go_at_call 87;(first|(with_reducible refine(lat_any x.1 c s lp lc _ _ ls _ (HC7.o.arr.over hcur) (HS7.o.arr.over hcur) (HO7.o.row.over hcur) HRI.o HM1.o (by omega)).mono ?_)|(with_reducible refine(lat_any x.2 c s lp lc _ _ ls _ (HC7.o.arr.over hcur) (HS7.o.arr.over hcur) (HO7.o.row.over hcur) HRI.o HM2.o (by omega)).mono ?_));rintro e w' ⟨rfl,hb⟩;have hcur:=bvo hcur hb));refine⟨iov (by first|exact hcur|exact hcur.alloc hcur.size _),?_⟩))
  refine lxe ?_;have HM8:=Lh (HM7.o.over hcur);have HB8:=Lh (bvo HBl7.o hcur);have hB8:=HB8.o.size;clear hcur y0 y1 y2 y3 y4 y5 sy;go_wp2_with (at_builtin;refine apD slPair rfl _ _ rfl w3.heap.size _ _ (drf _) 1 _ _ _ HM8.o rfl rfl rfl rfl hN7 (by decide) hB8 ?_;intro v9 w9 ho9 hg9);go_roundw
  case rel=>exact⟨k+1,hlt,by go_num,Lh (take_snoc HX.o (GOwn.snoc ho9)),bgr HB8.o hB8 HM8.o hg9⟩
  simp [intOf];omega
 obtain rfl:k=(relE ls es).length:=by omega
 have hE:=HM.o;rw [List.take_length] at hE;have HE:=Lh hE;obtain⟨rp,rc,rfl,t1,t2,_⟩:=prow_at hE.row;unfold maxLen at t2;have HSr:=Lh (HS3.o.over hbl.o);have HCr:=Lh (HC3.o.over hbl.o);have HOr:=Lh (HO3.o.over hbl.o);clear hE HM;obtain⟨c0,sc⟩:=HCr.o.arr.c1;obtain⟨s0,ss⟩:=HSr.o.arr.c1;go_wp2_with fail;refine wlo 10 fun hcur=>?_;repeat(first|refine lxq ?_|(refine lxl rfl ?_;go_wp2_with (first|(go_at_call 92;(with_reducible refine(rchOf_any ls.length _ (relE ls es) _ (HE.o.row.over hcur) HLt.o hll (by omega)).mono ?_);rintro e w' ⟨r,rfl,hr,hrel,hkeep,hb⟩;have HRel:=Lh hrel;have hxs:wr.heap.size≤_:=hcur.size;have HKeep:=Lh hkeep;replace hcur:=bvo hcur hb;clear hb hrel hkeep hr));refine⟨iov hcur,?_⟩))
 refine lxe ?_;have HO9:=Lh (HOr.o.over hcur);have HS9:=Lh (HSr.o.over hcur);have HC9:=Lh (HCr.o.over hcur);have HB9:=Lh (bov (bvo HBB.o HB3.o) (Nat.le_trans HBB.o.size HB3.o.size) (bvo hbl.o hcur));rename World=>w9;clear hcur c0 sc s0 ss;have s1:=HS9.o.arr.k 1 rfl;have f1:=HS9.o.arr.free 1;have ss:=HS9.o.arr.lt;go_upto_region 10 with fail;have HSa:=Lh (HS9.o.set 1 (.pointer (some ⟨r,0,none⟩)));have HCa:=Lh (HC9.o.set_other (a:=⟨s,1,none⟩) (show c≠s from hcs) (.pointer (some ⟨r,0,none⟩)));have hga:=gsc (g:=s) w9 1 (.pointer (some ⟨r,0,none⟩));have HOa:=Lh (own_kept HO9.o hga (HS9.o.ne HO9.o (by decide)));have hsw9:s<wr.heap.size:=HSr.o.arr.lt;have HRa:=Lh (HKeep.o _ s (by omega) hga);have HGa:=Lh hga;have HBa:=Lh (HB9.o.setCell (p:=⟨s,1,none⟩) hs0 (.pointer (some ⟨r,0,none⟩)));simp only [List.set_cons_succ,List.set_cons_zero] at HSa;generalize w9.setCell ⟨s,1,none⟩ (.pointer (some ⟨r,0,none⟩))=wa at *;clear hga s1 f1 ss;obtain⟨c0,sc⟩:=HCa.o.arr.c1;have s1:=HSa.o.arr.k 1 rfl;have ss:=HSa.o.arr.lt;refine wlo 8 fun hcur=>?_;repeat(first|refine lxq ?_|(refine lxl rfl ?_;go_wp2_with (first|(go_at_call 93;(with_reducible refine(order_any r ls.length (relE ls es) _ (HRa.o.over hcur)).mono ?_);rintro e w' ⟨ov,rfl,hov,hb⟩;have HOV:=Lh hov;have hxs:=hcur.size;replace hcur:=bvo hcur hb;clear hb hov));refine⟨iov hcur,?_⟩))
 refine lxe ?_;rename World=>wd;obtain⟨op,oc,rfl⟩:=own_form HOV.o;rw [orderM_len];have HO4:=HOV.o;rw [orderM_len] at HO4;have HOq:=Lh HO4;have HSd:=Lh (HSa.o.over hcur);have HCd:=Lh (HCa.o.over hcur);have HLd:=Lh (HOa.o.over hcur);have HGd:=Lh (gtr HGa.o (grown_lift hcur (some s)));have HBd:=Lh (bvo HBa.o hcur);clear hcur HO4 HOV c0 sc s1 ss;have s2:=HSd.o.arr.k 2 rfl;have f2:=HSd.o.arr.free 2;have ss:=HSd.o.arr.lt;go_upto_region 11 with fail;have hge:=gsc (g:=s) wd 2 (.slice op ls.length oc);have HRe:=Lh (HKeep.o _ s (by omega) (gtr HGd.o hge));have HSe:=Lh (HSd.o.set 2 (.slice op ls.length oc));have HCe:=Lh (HCd.o.set_other (a:=⟨s,2,none⟩) (show c≠s from hcs) (.slice op ls.length oc));have HLe:=Lh (own_kept HLd.o hge (HSd.o.ne HLd.o (by decide)));have HOe:=Lh (own_kept HOq.o hge (HSd.o.ne HOq.o (by decide)));have HBe:=Lh (HBd.o.setCell (p:=⟨s,2,none⟩) hs0 (.slice op ls.length oc));generalize wd.setCell ⟨s,2,none⟩ (.slice op ls.length oc)=we at *;clear hge s2 f2 ss;obtain⟨c0,sc⟩:=HCe.o.arr.c1;go_wp2;go_ret;exact⟨s,rfl,hs0,⟨lp,lc,r,op,oc,HSe.o.arr,HLe.o.row,HRe.o,HOe.o.row⟩,HBe.o,lp,lc,_,_,HSe.o.arr,HLe.o.base HB.o.size⟩
theorem lofL_any(b:Nat)(L:List PatchM)(file:VidM)(w:World)(hg:GrIs w b L)(hw:WfG L)(hil:(idsM L).length≤65536)(hel:(edgesM L).length≤1000000) :
  Calls Tryz.prog 39 #[.pointer (some ⟨b,0,none⟩),vidV file] w (LofL w (linesM L file) (relM L file)):=by
 have hr:relE (linesM L file) (stepsM L file)=relM L file:=by unfold relE relM;rfl
 rw [← hr];exact lofL_gen (some ⟨b,0,none⟩) (linesM L file) (stepsM L file) file w (fun W h=>by have h9:=gof_any b L file 3 W (hg.over h) hw (by omega);rw [linesM_eq] at h9;exact h9) (fun W h=>gsteps_any b L file W (hg.over h) hel) (lines_few hil) (steps_few hel) (lines_rise hw file) (fun e he=>step_ends hw (wf_len hw) he) (by rw [hr];exact relM_lt hw (wf_len hw) file)
theorem lof_any(b:Nat)(L:List PatchM)(file:VidM)(w:World)(hg:GrIs w b L)(hw:WfG L)(hil:(idsM L).length≤65536)(hel:(edgesM L).length≤1000000) :
  Calls Tryz.prog 39 #[.pointer (some ⟨b,0,none⟩),vidV file] w (LofRes w (linesM L file) (relM L file)):=(lofL_any b L file w hg hw hil hel).mono fun _ _ ⟨s,h1,h2,h3,h4,_⟩=>⟨s,h1,h2,h3,h4⟩
end Go.Proofs.YtjccmcgglfncdaaGreatDoor
