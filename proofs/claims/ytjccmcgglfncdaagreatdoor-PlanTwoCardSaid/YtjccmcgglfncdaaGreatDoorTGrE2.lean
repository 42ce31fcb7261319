/- What is proved: PlanTwo, for every input; of the listed tables the walk needs the powers of ten. -/
import Derived.Test.YtjccmcgglfncdaaGreatDoorTNmA
import Derived.Test.YtjccmcgglfncdaaGreatDoorTRefF
import Derived.Deep.MidRow
set_option linter.unusedVariables false
set_option linter.unusedSimpArgs false
set_option maxRecDepth 100000
set_option maxHeartbeats 40000000
namespace Go.Proofs.YtjccmcgglfncdaaGreatDoor
open Go Go.RowKit
section
variable{x:EdgeM}{left:EdgeM→Bool}{out:List EdgeM}{L:List PatchM}{q:VidM→Bool}
theorem or_lexE(A B m n:Nat)(h1:m<4294967296)(h2:n<4294967296):orI (cmpN A B) (cmpN m n)=cmpN (A*4294967296+m) (B*4294967296+n):=by
 unfold orI;rcases Nat.lt_trichotomy A B with h|h|h
 ·
  have h3:A*4294967296+m<B*4294967296+n:=by omega
  rw [cmpN_lt h,cmpN_lt h3,if_neg (by decide)]
 ·
  subst h;rw [cmpN_eq rfl,if_pos rfl];rcases Nat.lt_trichotomy m n with h3|h3|h3
  · have h4:A*4294967296+m<A*4294967296+n:=(by omega);rw [cmpN_lt h3,cmpN_lt h4]
  · subst h3;rw [cmpN_eq rfl,cmpN_eq rfl]
  have h4:A*4294967296+n<A*4294967296+m:=by omega
  rw [cmpN_gt h3,cmpN_gt h4]
 have h3:B*4294967296+n<A*4294967296+m:=by omega
 rw [cmpN_gt h,cmpN_gt h3,if_neg (by decide)]
def edgeCmp(a b:EdgeM):Int:=cmpN (edgeKey a) (edgeKey b)
theorem edge_or(a b:EdgeM):orI (cmpVid a.1 b.1) (cmpVid a.2 b.2)=edgeCmp a b:=or_lexE _ _ _ _ (packVid_lt a.2) (packVid_lt b.2)
theorem oneEdge:∀ x:EdgeM,∀ v∈encEdge x,v.oneCell'=true:=fun x v hv=>by simp [encEdge,encVid] at hv;rcases hv with rfl|rfl|rfl|rfl|rfl|rfl <;> rfl
attribute [local irreducible] cmpVid orI edgeCmp
theorem stepCmpG(a b:EdgeM)(w:World):Calls Tryz.prog 205 #[edgeV a,edgeV b] w fun e w'=>e=.returned (.int .i64 (edgeCmp a b))∧Grew w w':=by
 have HA:=Lh ((anw w #[.int .u8 a.1.pid.author.toNat,.int .u16 a.1.pid.seq.toNat,.int .u8 a.1.n.toNat,.int .u8 a.2.pid.author.toNat,.int .u16 a.2.pid.seq.toNat,.int .u8 a.2.n.toNat] 133).alloc (.cells #[.int .u8 b.1.pid.author.toNat,.int .u16 b.1.pid.seq.toNat,.int .u8 b.1.n.toNat,.int .u8 b.2.pid.author.toNat,.int .u16 b.2.pid.seq.toNat,.int .u8 b.2.n.toNat] 133));have HC:=Lh (an2 w (.cells #[.int .u8 a.1.pid.author.toNat,.int .u16 a.1.pid.seq.toNat,.int .u8 a.1.n.toNat,.int .u8 a.2.pid.author.toNat,.int .u16 a.2.pid.seq.toNat,.int .u8 a.2.n.toNat] 133) #[.int .u8 b.1.pid.author.toNat,.int .u16 b.1.pid.seq.toNat,.int .u8 b.1.n.toNat,.int .u8 b.2.pid.author.toNat,.int .u16 b.2.pid.seq.toNat,.int .u8 b.2.n.toNat] 133);have HB:=Lh (((Grew.refl w).alloc (.cells #[.int .u8 a.1.pid.author.toNat,.int .u16 a.1.pid.seq.toNat,.int .u8 a.1.n.toNat,.int .u8 a.2.pid.author.toNat,.int .u16 a.2.pid.seq.toNat,.int .u8 a.2.n.toNat] 133)).alloc (.cells #[.int .u8 b.1.pid.author.toNat,.int .u16 b.1.pid.seq.toNat,.int .u8 b.1.n.toNat,.int .u8 b.2.pid.author.toNat,.int .u16 b.2.pid.seq.toNat,.int .u8 b.2.n.toNat] 133));have HV:=Lh (edge_or a b);unfold edgeV;go_enter Tryz.func205,Tryz.ntmps205;go_upto_region 1 with fail;generalize (w.alloc (.cells #[.int .u8 a.1.pid.author.toNat,.int .u16 a.1.pid.seq.toNat,.int .u8 a.1.n.toNat,.int .u8 a.2.pid.author.toNat,.int .u16 a.2.pid.seq.toNat,.int .u8 a.2.n.toNat] 133)).alloc (.cells #[.int .u8 b.1.pid.author.toNat,.int .u16 b.1.pid.seq.toNat,.int .u8 b.1.n.toNat,.int .u8 b.2.pid.author.toNat,.int .u16 b.2.pid.seq.toNat,.int .u8 b.2.n.toNat] 133)=w0 at *;obtain⟨c0,c1,c2,c3,c4,c5,sc⟩:=HA.o.c6;obtain⟨d0,d1,d2,d3,d4,d5,sd⟩:=HC.o.c6;have hcur:Grew w0 w0.drew:=(Grew.refl _).drew;refine wlex (C:=IsGrew w0) 13 [] (by kernel_rfl) (by kernel_rfl) (isGrew_of hcur) ?_;simp only [Tsc,Tz,Dsc,Dz];repeat(first|refine lxq ?_|(refine lxl rfl ?_;go_wp2_with (first|(go_at_call 90;(first|(with_reducible refine(vcmpG a.1 b.1 _).mono ?_)|(with_reducible refine(vcmpG a.2 b.2 _).mono ?_));rintro e w' ⟨rfl,hb⟩;replace hcur:=hcur.trans hb;clear hb)|(go_at_call 206;refine(orInt_any _ _ _ _ (anw _ _ _)).mono ?_;rintro e w' ⟨rfl,rfl⟩));refine⟨isGrew_of (by first|exact hcur|exact hcur.alloc _),?_⟩))
 refine lxe ?_;go_wp2;go_ret;exact⟨ret_int HV.o,HB.o.trans (by first|exact hcur|exact hcur.alloc _)⟩
theorem edgeCmp_neg(a b:EdgeM):(edgeCmp a b<0)=(edgeKey a<edgeKey b):=by unfold edgeCmp;exact cmpN_neg _ _
theorem sortEdge_any{w:World}{B g cap:Nat}{xs:List EdgeM}(h:OwnAt w B 133 6 g xs.length cap (xs.flatMap encEdge))(hn:xs.length≤1000000000) :
  Calls Tryz.prog 204 #[.slice (some ⟨g,0,none⟩) xs.length cap,.func (.func 205) #[] #[]] w (SortRes edgeCmp encEdge 6 133 w B g cap xs):=by have hcon:=sortF_any (P:=Tryz.prog) Tryz.sortEdge (k:=6) (enc:=encEdge) Tryz.isAgg133 Tryz.sizeOf133 (fun _=>rfl) oneEdge edgeCmp (swo_key edgeKey _ edgeCmp_neg) 205 (enters_of Tryz.func205 (by kernel_rfl) rfl) (fun x y W=>stepCmpG x y W) h (by omega);exact hcon
theorem sortEdge_none(p:Option Addr)(cap:Nat)(fv:Value)(w:World) :
  Calls Tryz.prog 204 #[.slice p 0 cap,fv] w fun e w'=>e=.returned (.tuple #[])∧w'=w:=sortF_none Tryz.sortEdge p cap fv w
theorem stepsFn_any(f file:VidM)(gf:Nat)(w:World)(hF:Arr w gf [.int .u8 file.pid.author.toNat,.int .u16 file.pid.seq.toNat,.int .u8 file.n.toNat]) :
  Calls Tryz.prog 154 #[vidV f,.pointer (some ⟨gf,0,none⟩)] w fun e w'=>e=.returned (.bool (decide (f=file)))∧Be w w':=by
 have HX:=Lh (anw w (cV f) 74);have HB:=Lh (bnew (w:=w) (.cells (cV f) 74));have HF:=Lh (hF.alloc (.cells (cV f) 74));have gd:=fun p q xs ys w=>guard_vid .eql p q xs ys w;clear hF;unfold vidV;go_enter Tryz.func154,Tryz.ntmps154;go_upto_region 1 with fail;generalize w.alloc (.cells (cV f) 74)=w0 at *;obtain⟨c0,c1,c2,sc⟩:=HX.o.c3;obtain⟨f0,f1,f2,sf⟩:=HF.o.c3;obtain⟨b,h2⟩:∃ b,decide (f=file)=b:=⟨_,rfl⟩;have H2:=Lh h2;cases b with
 | true =>have e2:=eql_vid f file true h2;unfold vidV at e2;clear h2;go_wp2;go_ret;exact⟨rvb H2.o,HB.o⟩
 | false =>have e2:=eql_vid f file false h2;unfold vidV at e2;clear h2;go_wp2;go_ret;exact⟨rvb H2.o,HB.o⟩
def StepRel(q:VidM→Bool)(L:List PatchM)(w w1:World)(be it n:Nat)(v:Value)(wr:World):Prop:=
 ∃(left:EdgeM→Bool) (cnt:Nat) (out:List EdgeM),Hid (TRanges Tryz.prog 133 edgeV okAll vidV wr be it n (edgeM L) left cnt)∧Hid (GOwn encEdge 6 133 wr w1.heap.size v out) ∧
  Hid (∀ e,e∈out↔(∃ v,edgeM L e=some v∧q v=true)∧left e=false)∧Hid out.Nodup∧Hid (Be w wr)∧w1.heap.size≤wr.heap.size
theorem st_take(h:∀ e,e∈out↔(∃ v,edgeM L e=some v∧q v=true)∧left e=false){y:VidM}(hy:edgeM L x=some y)(hq:q y=true)(e:EdgeM) :
  e∈out++[x]↔(∃ v,edgeM L e=some v∧q v=true)∧(left e && !decide (e=x))=false:=by
 rw [List.mem_append,List.mem_singleton,h e]
 by_cases hx:e=x
 · subst hx;simp [hy,hq]
 simp [hx]
theorem st_skip(h:∀ e,e∈out↔(∃ v,edgeM L e=some v∧q v=true)∧left e=false){y:VidM}(hy:edgeM L x=some y)(hq:q y=false)(e:EdgeM) :
  e∈out↔(∃ v,edgeM L e=some v∧q v=true)∧(left e && !decide (e=x))=false:=by
 rw [h e]
 by_cases hx:e=x
 · subst hx;simp [hy,hq]
 simp [hx]
theorem st_new(h:∀ e,e∈out↔(∃ v,edgeM L e=some v∧q v=true)∧left e=false)(hn:out.Nodup)(hl:left x=true):(out++[x]).Nodup:=by rw [List.nodup_append];refine⟨hn,by simp,fun a ha b hb e => ?_⟩;simp at hb;have:=((h a).1 ha).2;rw [e,hb,hl] at this;cases this
theorem st_few(h:∀ e,e∈out↔(∃ v,edgeM L e=some v∧q v=true)∧left e=false)(hn:out.Nodup):out.length≤(edgesM L).length:=
 nodup_len hn fun e he=>by
  rw [mem_edgesM];obtain⟨⟨v,h1,_⟩,_⟩:=(h e).1 he;unfold edgeM at h1;split at h1
  · assumption
  · cases h1
theorem st_sorted{ys:List EdgeM}(h:∀ e,e∈out↔(∃ v,edgeM L e=some v∧q v=true)∧left e=false)(hn:out.Nodup)(hall:∀ e,left e=false)
  (hp:ys.Perm out) (hs:ys.Pairwise fun a b=>¬ edgeCmp b a<0):ys=(edgesM L).filter fun e=>q (fileAt L e.1):=by
 refine edges_eq q ?_ fun e=>by rw [hp.mem_iff,h e];simp [hall]
 have hnd:ys.Pairwise fun a b=>a≠b:=hp.nodup_iff.2 hn;unfold Rises;refine(hs.and hnd).imp fun {a b} hab => ?_;obtain⟨h1,h2⟩:=hab;rw [edgeCmp_neg] at h1;have:edgeKey a≠edgeKey b:=fun e=>h2 (edgeKey_hi _ _ e);omega
attribute [local irreducible] edgeM edgesM fileAt
theorem psteps_any(b:Nat)(L:List PatchM)(w:World)(hg:GrIs w b L)(hil:(edgesM L).length≤1000000)(file:VidM)(gf:Nat)(hF:Arr w gf [.int .u8 file.pid.author.toNat,.int .u16 file.pid.seq.toNat,.int .u8 file.n.toNat]) :
  Calls Tryz.prog 128 #[.pointer (some ⟨b,0,none⟩),.func (.func 154) #[] #[.pointer (some ⟨gf,0,none⟩)]] w (OwnRes encEdge 6 133 w (stepsM L file)):=by
 obtain⟨bv,be,n,hG⟩:=hg;have hlt:=hG.arr.lt;have hbe:=hG.edges.lt;have g65:=hG.arr.cell (gCells_e (vecM L) bv be);have HG:=Lh hG.edges;have HF:=Lh hF;have HST:=Lh (show(edgesM L).filter (fun e=>decide (fileAt L e.1=file))=stepsM L file from rfl);clear hG hF;go_enter Tryz.func128,Tryz.ntmps128;go_wp2_with (refine wpList_trange keysEdge rfl _ _ rfl Tryz.underlying116 be n _ rfl HG.o ?_;intro w1 cnt hR hg1 hs1);have HR:=Lh hR;have HB1:=Lh (show Be w w1 from⟨hg1.os,hg1.tape,hg1.output,hg1.size,fun k hk=>hg1.block k hk (by simp)⟩);clear hR hg1 g65;go_simp;go_loopw [5] (fun v5 wr=>StepRel (fun v=>decide (v=file)) L w w1 be w.heap.size n v5 wr) (fun _ wr=>wr.rangeLeft be w.heap.size)
 case atStart=>exact⟨_,cnt,[],HR,gown_nil _ _,Lh (fun x=>⟨fun q=>absurd q List.not_mem_nil,fun⟨⟨v,h1,_⟩,h2⟩=>by simp [h1] at h2⟩),Lh (by simp),HB1,Nat.le_refl _⟩
 obtain⟨left,cnt1,out,HR1,HO,HM,HN,HBr,hsr⟩:=hrel;rename World=>wr;have hle:=HR1.o.left_eq;have hfew:=st_few HM.o HN.o;go_wp2_with (refine wpList_tnext keysEdge rfl _ rfl be w.heap.size n _ left cnt1 rfl HR1.o ?_ ?_)
 ·
  intro hall;have HA:=Lh hall;clear hall;rcases own_cases HO.o with⟨rfl,p,c,rfl⟩|⟨hne,g,cap,rfl,hA⟩
  · have HE:=Lh (st_sorted HM.o HN.o (fun e=>HA.o e.1 e.2 trivial) (List.Perm.refl _) List.Pairwise.nil);go_wp2_with fail;refine(sortEdge_none _ _ _ _).mono ?_;rintro e w2 ⟨rfl,hw2⟩;obtain rfl:=hw2.symm;go_wp2;go_ret;exact⟨_,rfl,(by rw [← HST.o,← HE.o];exact HO.o.base (by omega)),HBr.o⟩
  have HAt:=Lh hA;clear hA;go_wp2_with fail;refine(sortEdge_any HAt.o (by omega)).mono ?_;rintro e w2 ⟨rfl,ys,hp,hs,hA2,hg2⟩;have HE:=Lh (st_sorted HM.o HN.o (fun e=>HA.o e.1 e.2 trivial) hp hs);have hyl:=hp.length_eq;rw [← hyl] at hA2;have HO2:Hid (GOwn encEdge 6 133 w2 w1.heap.size (.slice (some ⟨g,0,none⟩) out.length cap) ys):=by show World.ownsRow _ _ _ _ _ _ _;rw [← hyl];exact hA2.own
  have HG2:=Lh hg2;clear hp hs hA2 hg2 hyl;go_wp2;go_ret;exact⟨_,rfl,(by rw [← HST.o,← HE.o];exact HO2.o.base (by omega)),HBr.o.grown HG2.o HBr.o.size fun k hk=>by cases hk;have:=HAt.o.base;omega⟩
 intro x1 x2 y w2 cnt2 hx hl hy hR2 hcl hg2 hs2 hent;obtain⟨x,hxx⟩:∃ x:EdgeM,x=(x1,x2):=⟨_,rfl⟩;have e1:x1=x.1:=by rw [hxx]
 have e2:x2=x.2:=by rw [hxx]
 rw [← hxx] at hl hy hR2;rw [e1,e2] at hent;clear hxx e1 e2 hx;have HR2:=Lh hR2;have HY:=Lh hy;have HX:=Lh hl;have HO2:=Lh (show GOwn _ _ _ w2 _ _ _ from own_grown HO.o hg2 (.inr fun q=>by have:=gown_base HO.o q;omega));have HB2:Hid (Be w w2):=HBr.o.grown hg2 HBr.o.size fun k hk=>by cases hk;exact Nat.le_refl _
 clear hR2 hy hl hg2;unfold edgeV vidV at hent;go_upto_region 7 with fail;have hA7:=(anw w2 #[.int .u8 x.1.pid.author.toNat,.int .u16 x.1.pid.seq.toNat,.int .u8 x.1.n.toNat,.int .u8 x.2.pid.author.toNat,.int .u16 x.2.pid.seq.toNat,.int .u8 x.2.n.toNat] 133).alloc (.cells (cV y) 74);rw [hs2] at hA7;have HA7:=Lh hA7;have hF7:=an2 w2 (.cells #[.int .u8 x.1.pid.author.toNat,.int .u16 x.1.pid.seq.toNat,.int .u8 x.1.n.toNat,.int .u8 x.2.pid.author.toNat,.int .u16 x.2.pid.seq.toNat,.int .u8 x.2.n.toNat] 133) (cV y) 74;rw [hs2] at hF7;have HF7:=Lh hF7;clear hA7 hF7;have HB7:=Lh ((bnew (w:=w2) (.cells #[.int .u8 x.1.pid.author.toNat,.int .u16 x.1.pid.seq.toNat,.int .u8 x.1.n.toNat,.int .u8 x.2.pid.author.toNat,.int .u16 x.2.pid.seq.toNat,.int .u8 x.2.n.toNat] 133)).alloc (by simp) (.cells (cV y) 74));generalize (w2.alloc (.cells #[.int .u8 x.1.pid.author.toNat,.int .u16 x.1.pid.seq.toNat,.int .u8 x.1.n.toNat,.int .u8 x.2.pid.author.toNat,.int .u16 x.2.pid.seq.toNat,.int .u8 x.2.n.toNat] 133)).alloc (.cells (cV y) 74)=w7 at *;clear hent;have hs7:=HB7.o.size;obtain⟨y0,y1,y2,sy⟩:=HF7.o.c3;go_wp2_with fail;refine(stepsFn_any y file gf _ (HF.o.over (bvo HB2.o HB7.o))).mono ?_;rintro e w8 ⟨rfl,hb8⟩;have HB8:=Lh (bvo HB7.o hb8);have HA8:=Lh (HA7.o.over hb8);have hs8:=HB8.o.size;have HR8:=Lh (HR2.o.kept (below_none HB8.o) (by simp) (by simp));have HO8:=Lh (HO2.o.over HB8.o);have HBB8:=Lh (bvo HB2.o HB8.o);clear hb8 y0 y1 y2 sy;obtain⟨z0,z1,z2,z3,z4,z5,sz⟩:=HA8.o.c6;have hle2:=HR8.o.left_eq;cases hq:decide (y=file) with
 | false =>
  have HM2:=Lh (st_skip HM.o HY.o hq);clear hq;go_wp2;go_roundw
  case rel=>exact⟨_,cnt2,out,HR8,HO8,HM2,HN,HBB8,by omega⟩
  show World.rangeLeft _ _ _<World.rangeLeft _ _ _;omega
 | true =>
  have HM2:=Lh (st_take HM.o HY.o hq);have HN2:=Lh (st_new HM.o HN.o HX.o);have hNl:out.length+1≤1099511627776:=by omega
  have hB8:w1.heap.size≤w8.heap.size:=by omega
  clear hq;go_wp2_with (at_builtin;refine apD slEdge rfl _ _ rfl w1.heap.size _ _ (drf _) 1 _ _ _ HO8.o rfl rfl rfl rfl hNl (by decide) hB8 ?_;intro v9 w9 ho9 hg9);have HR9:=Lh (HR8.o.grow HO8.o hg9 (by omega) (by omega));have hle9:=HR9.o.left_eq;have hs9:=hg9.size;go_roundw
  case rel=>exact⟨_,cnt2,out++[x],HR9,GOwn.snoc ho9,HM2,HN2,HBB8.o.grown hg9 HBB8.o.size (fun k hk=>by have:=gown_base HO8.o hk;omega),by omega⟩
  show World.rangeLeft _ _ _<World.rangeLeft _ _ _;omega
theorem gsteps_any(b:Nat)(L:List PatchM)(file:VidM)(w:World)(hg:GrIs w b L)(hil:(edgesM L).length≤1000000) :
  Calls Tryz.prog 91 #[.pointer (some ⟨b,0,none⟩),vidV file] w (OwnRes encEdge 6 133 w (stepsM L file)):=by have HF:=Lh (anw w (cV file) 74);have HB:=Lh (bnew (w:=w) (.cells (cV file) 74));have HG:=Lh hg;clear hg;unfold vidV;go_enter Tryz.func91,Tryz.ntmps91;go_upto_region 1 with fail;generalize w.alloc (.cells (cV file) 74)=w0 at *;go_wp2_with fail;refine(psteps_any b L _ (HG.o.over HB.o) hil file w.heap.size HF.o).mono ?_;rintro e w1 ⟨v,rfl,ho,hb⟩;have HO:=Lh (ho.base HB.o.size);have HB1:=Lh (bvo HB.o hb);clear ho hb;go_wp2;go_ret;exact⟨_,rfl,HO.o,HB1.o⟩
end
section
attribute [local irreducible] idsM vertM optV
end
section
attribute [local irreducible] idsM vertsM
end
section
attribute [local irreducible] idsM vertsM
end
section
attribute [local irreducible] vecL authorOk numM nextF vecM
end
attribute [local irreducible] vecL
theorem gvec_any(b:Nat)(L:List PatchM)(w:World)(hg:GrIs w b L):Calls Tryz.prog 20 #[.pointer (some ⟨b,0,none⟩)] w fun e w'=>e=.returned (vecV (vecM L))∧Be w w':=by obtain⟨bv,be,n,hG⟩:=hg;have HG:=Lh hG;generalize vecM L=f at *;clear hG;go_enter Tryz.func20,Tryz.ntmps20;go_upto_region 1 with fail;refine code_gen (fun w0=>∃ zs:List Value,zs.length=64∧Arr w0 w.heap.size zs∧Be w w0) (by refine⟨_,?_,anw w _ _,bnew _⟩;rfl) ?_;rintro w0 ⟨zs,hzl,hR,hB⟩;have HR:=Lh hR;have HB:=Lh hB;have HZL:=Lh hzl;have HA:Hid (Arr w0 b (vecL f++[.map (some bv),.map (some be)])):=Lh (HG.o.over HB.o).arr;have sb:=HA.o.lt;clear hR hB hzl;go_wp2_with (first|((with_reducible show wpList _ _ _ ({dst:=_,op:=.load _ _,type:=_,pos:=_,after:=_,guard:=_} :: _) _ _);refine wpList_load_part agg_vec size_vec rfl _ rfl b (vecL f) [.map (some bv),.map (some be)] HA.o rfl (vecL_len f) ?_)|(refine wpList_put_arr rowVec rfl _ _ rfl _ _ _ HR.o rfl rfl HZL.o (vecL_len _) (vecL_one _) ?_;intro w9 HV9 ho9 hb9 hs9;clear hs9));exact bodyPost_ret (v:=.agg (vecL f).toArray) (results_arr rowVec rfl HV9 rfl (vecL_len _)) rfl ⟨rfl,hb9 _ _ (Nat.le_refl _) HB.o⟩
end Go.Proofs.YtjccmcgglfncdaaGreatDoor
set_option maxRecDepth 100000
set_option maxHeartbeats 40000000
namespace Go.Proofs.YtjccmcgglfncdaaGreatDoor
open Go Go.RowKit
structure Bex (b bv be:Nat) (w w':World):Prop where
 os:w'.os=w.os
 tape:w'.tape=w.tape
 output:w'.output=w.output
 size:w.heap.size≤w'.heap.size
 block:∀ k,k<w.heap.size→k≠b→k≠bv→k≠be→w'.heap[k]? = w.heap[k]?
section
variable {b bv be : Nat} {w w1 w2 : World}
theorem bex_of(h:Be w w1):Bex b bv be w w1:=⟨h.os,h.tape,h.output,h.size,fun k hk _ _ _=>h.block k hk⟩
theorem Bex.over(h:Bex b bv be w w1)(hb:Be w1 w2):Bex b bv be w w2:=
 ⟨hb.os.trans h.os,hb.tape.trans h.tape,hb.output.trans h.output,Nat.le_trans h.size hb.size,fun k hk n1 n2 n3=>(hb.block k (Nat.lt_of_lt_of_le hk h.size)).trans (h.block k hk n1 n2 n3)⟩
theorem Bex.grown{r:Option Nat}(h:Bex b bv be w w1)(hg:w1.grownBy w2 r)(hr:r=some b∨r=some bv∨r=some be):Bex b bv be w w2:=by
 refine⟨hg.os.trans h.os,hg.tape.trans h.tape,hg.output.trans h.output,Nat.le_trans h.size hg.size,fun k hk n1 n2 n3=>(hg.block k (Nat.lt_of_lt_of_le hk h.size) ?_).trans (h.block k hk n1 n2 n3)⟩;intro e;rcases hr with e2|e2|e2 <;> rw [← e] at e2 <;> cases e2
 · exact n1 rfl
 · exact n2 rfl
 exact n3 rfl
theorem Bex.alloc(h:Bex b bv be w w1)(o:Obj):Bex b bv be w (w1.alloc o):=h.over (bnew o)
theorem Bex.cell(h:Bex b bv be w w1){p:Addr}(hp:p.block<w.heap.size)(n1:p.block≠b)(n2:p.block≠bv)(n3:p.block≠be):w1.cell? p=w.cell? p:=World.cell?_of_block (w:=w) (h.block p.block hp n1 n2 n3)
def Aside(b bv be:Nat)(v:Value):Prop:=∀ k,v.ownBlock=some k→k≠b∧k≠bv∧k≠be
theorem Row.bex{v:Value}{n sz:Nat}{cs:List Value}(h:Row w v n sz cs)(ha:Aside b bv be v)(hx:Bex b bv be w w1):Row w1 v n sz cs:=by obtain⟨h0,a,cap,rfl,h1,h2,h3,h4⟩:=h;refine⟨h0,a,cap,rfl,h1,h2,h3,fun hp => ?_⟩;obtain⟨g,off,rfl,hg,hc⟩:=h4 hp;obtain⟨n1,n2,n3⟩:=ha g rfl;refine⟨g,off,rfl,Nat.lt_of_lt_of_le hg hx.size,fun j u hu => ?_⟩;rw [hx.cell (p:=⟨g,off+j,none⟩) hg n1 n2 n3];exact hc j u hu
theorem Arr.bex{g:Nat}{cs:List Value}(h:Arr w g cs)(n1:g≠b)(n2:g≠bv)(n3:g≠be)(hx:Bex b bv be w w1):Arr w1 g cs:=by have hl:=h.lt;obtain⟨e,h⟩:=h;exact⟨e,by rw [hx.block g hl n1 n2 n3];exact h⟩
theorem grow_atB{α:Type}{enc:α→List Value}{sz:Nat}{v:Value}{xs:List α}(hf:∀ x,(enc x).length=sz)(h:GRow enc sz w v xs)(ha:Aside b bv be v):∃ a cap,v=.slice a xs.length cap∧xs.length≤cap∧cap≤maxLen∧(xs.length=0∨∃ g off,a=some ⟨g,off,none⟩∧g<w.heap.size ∧
  ∀ i x,xs[i]? = some x→∀ W,Bex b bv be w W→g<W.heap.size∧∀ j u,(enc x)[j]? = some u→W.cell? ⟨g,off+i*sz+j,none⟩=some u):=by obtain⟨a,cap,rfl,h1,h2,h3⟩:=h.at hf;refine⟨a,cap,rfl,h1,h2,h3.imp id ?_⟩;rintro⟨g,off,rfl,h4,h5⟩;obtain⟨n1,n2,n3⟩:=ha g rfl;refine⟨g,off,rfl,h4,fun i x hx W hW=>⟨Nat.lt_of_lt_of_le h4 hW.size,fun j u hu => ?_⟩⟩;rw [hW.cell (p:=⟨g,off+i*sz+j,none⟩) h4 n1 n2 n3];exact(h5 i x hx w (Below.refl _ _)).2 j u hu
end
def Ap2(w0:World)(b bv be m:Nat)(f:VecM)(vs:VidM→Option VertM)(es:EdgeM→Option VidM)(e:Ending)(w':World):Prop:=
 e=.returned (.int .i64 0)∧GrW w' b bv be m f vs es∧Bex b bv be w0 w'
attribute [local irreducible] vecL lookX madeX optV refsK isK goodQ hasF nextF checkX refsO
theorem gapply2_any(b bv be n:Nat)(f:VecM)(vs:VidM→Option VertM)(es:EdgeM→Option VidM)(id:PidM)(dv ov:Value)(deps:List PidM)(ops:List OpM)(VS:Nat→VidM→Option VertM)(ES:Nat→EdgeM→Option VidM)
  (w:World) (hg:GrW w b bv be n f vs es) (hf:∀ a,f a≤60000) (hd:GRow encPid 2 w dv deps) (hv:GRow encOp 8 w ov ops) (hoa:Aside b bv be ov) (hl:ops.length≤40000) (hz:∀ o∈ops,o.text.size≤maxLen)
  (hn:n+ops.length≤4000000000) (hok:checkX f vs id deps ops=0) (hau:authorOk id.author=true) (hnx:nextF f id.author=id) (hst:Steps VS ES vs es id ops) :
  Calls Tryz.prog 25 #[.pointer (some ⟨b,0,none⟩),patV id dv ov] w (Ap2 w b bv be (n+ops.length) (setV f id.author id.seq.toNat) (VS ops.length) (ES ops.length)):=by
 have HV:=Lh hv;have HVB:=Lh hv;have HOA:=Lh hoa;have HD:=Lh hd;have HF:=Lh hf;have HZ:=Lh hz;have HOK:=Lh hok;have HAU:=Lh hau;have HNX:=Lh hnx;have HST:=Lh hst;have HG0:=Lh hg;obtain⟨a,cap,rfl,h1,h2,hc⟩:=grow_atB encOp_len hv hoa;unfold maxLen at h2;have HC:=Lh hc;have l1:=hg.arr.lt;have l2:=hg.verts.lt;have l3:=hg.edges.lt;have n12:¬ b=bv:=fun e=>hg.verts.ne_arr hg.arr e;have n13:¬ b=be:=fun e=>hg.edges.ne_arr hg.arr e;have n23:¬ bv=be:=hg.ne;have n21:¬ bv=b:=fun e=>n12 e.symm;have n31:¬ be=b:=fun e=>n13 e.symm;have n32:¬ be=bv:=fun e=>n23 e.symm;have HP:=Lh (anw w #[.int .u8 id.author.toNat,.int .u16 id.seq.toNat,dv,.slice a ops.length cap] 44);have HB:=Lh (bnew (w:=w) (.cells #[.int .u8 id.author.toNat,.int .u16 id.seq.toNat,dv,.slice a ops.length cap] 44));clear hv hc hg hd hf hz hok hau hnx hst hoa;unfold patV;go_enter Tryz.func25,Tryz.ntmps25;go_upto_region 1 with fail;generalize w.alloc (.cells #[.int .u8 id.author.toNat,.int .u16 id.seq.toNat,dv,.slice a ops.length cap] 44)=w0 at *;obtain⟨p0,p1,p2,p3,sp⟩:=HP.o.c4;go_upto_region 4 with(first|(go_at_call 63;(with_reducible refine(gcheck_any b bv be n f vs es id _ _ deps ops _ (HG0.o.over HB.o) HF.o (HD.o.over HB.o) (HV.o.over HB.o) hl HZ.o).mono ?_);rintro e w1 ⟨rfl,hb⟩;rw [HOK.o]))
 have HP1:=Lh (HP.o.over hb);have HB1:=Lh (bvo HB.o hb);have HG1:=Lh (HG0.o.over HB1.o);have HGA:Hid (Arr w1 b (vecL f++[.map (some bv),.map (some be)])):=HG1.o.arr;have HBb:Hid (Bex b bv be w w1):=Lh (bex_of HB1.o);have nbp:¬ w.heap.size=b:=by omega
 have npv:¬ w.heap.size=bv:=by omega
 have npe:¬ w.heap.size=be:=by omega
 clear p0 p1 p2 p3 sp HP HG0 HB hb;obtain⟨p0,p1,p2,p3,sp⟩:=HP1.o.c4;have sb:=HGA.o.lt;have hcur:World.grownBy w1 w1.drew (some b):=⟨rfl,rfl,rfl,Nat.le_refl _,fun _ _ _=>rfl⟩;refine wlex (C:=IsKept w1 (some b)) 14 [4] (by kernel_rfl) (by kernel_rfl) (isKept_of hcur) ?_;simp only [Tsc,Tz,Dsc,Dz];repeat(first|refine lxq ?_|(refine lxl rfl ?_;go_wp2_with (first|((with_reducible show wpList _ _ _ ({dst:=_,op:=.load _ _,type:=_,pos:=_,after:=_,guard:=_} :: _) _ _);refine wpList_load_part agg_vec size_vec rfl _ rfl b (vecL f) [.map (some bv),.map (some be)] HGA.o.drew rfl (vecL_len f) ?_)|(go_at_call 64;(with_reducible refine(pput_any f HF.o id _ HAU.o HNX.o).mono ?_);rintro e w2 ⟨rfl,hb⟩;replace hcur:=gtr hcur (grown_of_below hb);have HGB:Hid (Arr w2 b (vecL f++[.map (some bv),.map (some be)])):=HGA.o.drew.over hb;clear hb)|((with_reducible show wpList _ _ _ ({dst:=_,op:=.store _ _ _,type:=_,pos:=_,after:=_,guard:=_} :: _) _ _);refine wpList_store_part rowVec rfl _ _ rfl b (vecL f) [.map (some bv),.map (some be)] (vecL (setV f id.author id.seq.toNat)) HGB.o rfl rfl (vecL_len _) (vecL_len _) (vecL_one _) ?_;intro HA3 hg3 hs3;replace hcur:=gtr hcur hg3));refine⟨isKept_of (by first|exact hcur|exact only_alloc hcur _),?_⟩))
 refine lxe ?_;generalize w2.setRow b (vecL (setV f id.author id.seq.toNat)++([.map (some bv),.map (some be)]:List Value)).toArray=w3 at *;have HG3:Hid (GrW w3 b bv be n (setV f id.author id.seq.toNat) vs es):=⟨HA3,HG1.o.verts.kept hcur (fun e=>n21 (Option.some.inj e)),HG1.o.edges.kept hcur (fun e=>n31 (Option.some.inj e)),n23⟩;have HP3:=Lh (HP1.o.grown hcur (fun e=>nbp (Option.some.inj e)));have HB3:=Lh (HBb.o.grown hcur (.inl rfl));clear HA3 hg3 hs3 hcur HGA HGB HG1 HBb HP1 sb p0 p1 p2 p3 sp HF HD HZ HOK HAU HNX HB1;obtain⟨p0,p1,p2,p3,sp⟩:=HP3.o.c4;go_wp2;go_loopw [32] (fun v32 wr=>∃ k:Nat,k≤ops.length∧v32=.int .i64 k∧Hid (GrW wr b bv be (n+k) (setV f id.author id.seq.toNat) (VS k) (ES k))∧Hid (Arr wr w.heap.size [.int .u8 id.author.toNat,.int .u16 id.seq.toNat,dv,.slice a ops.length cap])∧Hid (Bex b bv be w wr)) (fun v32 _=>ops.length - (intOf v32).toNat)
 case atStart=>exact⟨0,by omega,rfl,(by show GrW _ _ _ _ _ _ _ _;rw [HST.o.v0,HST.o.e0];exact HG3.o),HP3,HB3⟩
 obtain⟨k,hk,rfl,HGr,HPr,HBr⟩:=hrel;clear p0 p1 p2 p3 sp HG3 HP3 HB3
 by_cases hlt:k<ops.length
 rotate_left
 ·
  obtain rfl:k=ops.length:=by omega
  go_wp2;go_ret;exact⟨rfl,HGr.o,HBr.o⟩
 obtain⟨bo,offo,rfl,sbo,hcb⟩:=HC.o.resolve_left (by omega);obtain⟨o,hok⟩:=gol hlt;have HX:=Lh hok;have HRo:=Lh (hcb k o hok wr HBr.o);have HN:Hid (n+k<maxLen):=Lh (by unfold maxLen;omega);clear hcb hok;obtain⟨o0,o1,o2,o3,o4,o5,o6,o7,so⟩:=rc8 HRo.o;go_upto_region 11 with fail;have HO4:=Lh (anw wr (cO o) 76);have HG4:=Lh (HGr.o.over (bnew (.cells (cO o) 76)));have HP4:=Lh (HPr.o.alloc (.cells (cO o) 76));have HB4:=Lh (HBr.o.alloc (.cells (cO o) 76));have m1:=HGr.o.arr.lt;have m2:=HGr.o.verts.lt;have m3:=HGr.o.edges.lt;have m4:=HPr.o.lt;have nob:¬ wr.heap.size=b:=by omega
 have nov:¬ wr.heap.size=bv:=by omega
 have noe:¬ wr.heap.size=be:=by omega
 generalize wr.alloc (.cells (cO o) 76)=w4 at *;clear o0 o1 o2 o3 o4 o5 o6 o7 so HGr HPr HRo;obtain⟨o0,o1,o2,o3,o4,o5,o6,o7,so⟩:=HO4.o.c8;obtain⟨p0,p1,p2,p3,sp⟩:=HP4.o.c4;have g64:=HG4.o.arr.cell (gCells_v _ bv be);have g65:=HG4.o.arr.cell (gCells_e _ bv be);have sg:=HG4.o.arr.lt;cases hm:makesB o.kind with
 | true =>
  have HMK:=Lh hm;have hsv:=(HST.o.vk k o HX.o).trans (by unfold stepV;rw [if_pos hm]:_=updM (VS k) (madeX id k o).id (madeX id k o));have HSE:=Lh ((HST.o.ek k o HX.o).trans (by unfold stepE;rw [if_pos hm]:_=ES k));clear hm;generalize hx:madeX id k o=x at *;have HSV:=Lh hsv;have HV4:Hid (GRow encOp 8 w4 _ ops):=Lh (Row.bex HVB.o HOA.o HB4.o);clear hsv;go_upto_region 13 with(first|(go_at_call 65;(with_reducible refine(pmakes_any o.kind _).mono ?_);rintro e w9 ⟨rfl,hw9⟩;obtain rfl:=hw9.symm;rw [HMK.o])|(go_at_call 66;(with_reducible refine(hx▸gmade_any id _ _ ops k o _ HV4.o HX.o hl).mono ?_);rintro e w6 ⟨rfl,hb⟩))
  have hbx:=hb.alloc hb.size (.cells (cX x) 101);have HX7:=Lh (anw w6 (cX x) 101);have HG7:=Lh (HG4.o.over hbx);have HP7:=Lh (HP4.o.over hbx);have HB7:=Lh (HB4.o.over hbx);have nxv:¬ w6.heap.size=bv:=by have:=hb.size;have:=HG4.o.verts.lt;omega
  generalize w6.alloc (.cells (cX x) 101)=w7 at *;clear hb hbx o0 o1 o2 o3 o4 o5 o6 o7 so p0 p1 p2 p3 sp g64 g65 sg HO4 HG4 HP4 HB4;obtain⟨x0,x1,x2,x3,x4,x5,x6,x7,x8,sx⟩:=HX7.o.c9;have g64:=HG7.o.arr.cell (gCells_v _ bv be);have sg:=HG7.o.arr.lt;have hcur:World.grownBy w7 w7.drew (some bv):=⟨rfl,rfl,rfl,Nat.le_refl _,fun _ _ _=>rfl⟩;refine wlex (C:=IsKept w7 (some bv)) 8 [] (by kernel_rfl) (by kernel_rfl) (isKept_of hcur) ?_;simp only [Tsc,Tz,Dsc,Dz];repeat(first|refine lxq ?_|(refine lxl rfl ?_;go_wp2_with (first|((with_reducible show wpList _ _ _ ({dst:=_,op:=.mapUpdate _ _ _ _,type:=_,pos:=_,after:=_,guard:=_} :: _) _ _);refine wpList_tstore keysVid vertV_inj rfl _ _ _ _ rfl Tryz.underlying115 bv _ (VS k) rfl (HG7.o.verts.drew) HN.o (x.id) rfl trivial (x) rfl ?_;intro w5 hm5 hg5 hs5;replace hcur:=gtr hcur hg5));refine⟨isKept_of (by first|exact hcur|exact only_alloc hcur _),?_⟩))
  refine lxe ?_;have HG5:Hid (GrW w5 b bv be (n+(k+1)) (setV f id.author id.seq.toNat) (VS (k+1)) (ES (k+1))):=by show GrW _ _ _ _ _ _ _ _;rw [HSV.o,HSE.o];exact⟨HG7.o.arr.grown hcur (fun e=>n12 (Option.some.inj e)),hm5,(HG7.o.edges.kept hcur (fun e=>n32 (Option.some.inj e))).mono (by omega),n23⟩
  have HP5:=Lh (HP7.o.grown hcur (fun e=>npv (Option.some.inj e)));have HB5:=Lh (HB7.o.grown hcur (.inr (.inl rfl)));clear hm5 hg5 hs5 hcur;go_wp2;go_roundw
  case rel=>exact⟨k+1,hlt,by go_num,HG5,HP5,HB5⟩
  simp [intOf];omega
 | false =>
  have HMK:=Lh hm
  by_cases h4:o.kind.toNat=4
  ·
   have e4:((o.kind.toNat:Int) == 4)=true:=(by simp;omega);generalize hy:optV (VS k o.at')=y at *;have HSV:=Lh ((HST.o.vk k o HX.o).trans (by unfold stepV;rw [if_neg (by rw [hm];simp),if_pos h4]:_=VS k));have HSE:=Lh ((HST.o.ek k o HX.o).trans (by unfold stepE;rw [if_neg (by rw [hm];simp),if_pos h4,hy]:_=updM (ES k) (o.at',o.to) y.file));clear hm h4;have HLK:Hid (∀ x:Kept w4 (some be),(Instr.lookup 115 (.map (some bv)) (.agg (cV o.at')) false).run Tryz.prog x.1=.ok (vertV y) x.1):=fun x =>(TMap.lookup keysVid vertV_inj (HG4.o.verts.kept x.2 (fun e=>n23 (Option.some.inj e))) Tryz.underlying115 (zero_vert _) o.at' trivial).trans (by rw [optV_eq,hy]);have hlk:=HLK.o;unfold vertV at hlk;have hff:=field_file y;clear HLK;go_upto_region 15 with(first|(go_at_call 65;(with_reducible refine(pmakes_any o.kind _).mono ?_);rintro e w9 ⟨rfl,hw9⟩;obtain rfl:=hw9.symm;rw [HMK.o]))
   have hcur:World.grownBy w4 w4.drew (some be):=⟨rfl,rfl,rfl,Nat.le_refl _,fun _ _ _=>rfl⟩;refine wlex (C:=IsKept w4 (some be)) 18 [] (by kernel_rfl) (by kernel_rfl) (isKept_of hcur) ?_;simp only [Tsc,Tz,Dsc,Dz];(repeat(first|refine lxq ?_|(refine lxl rfl ?_;go_wp2_with (first|((with_reducible show wpList _ _ _ ({dst:=_,op:=.mapUpdate _ _ _ _,type:=_,pos:=_,after:=_,guard:=_} :: _) _ _);refine wpList_tstore keysEdge vidV_inj rfl _ _ _ _ rfl Tryz.underlying116 be _ (ES k) rfl (HG4.o.edges.drew) HN.o ((o.at',o.to)) rfl trivial (y.file) rfl ?_;intro w5 hm5 hg5 hs5;replace hcur:=gtr hcur hg5));refine⟨isKept_of (by first|exact hcur|exact only_alloc hcur _),?_⟩)));refine lxe ?_;have HG5:Hid (GrW w5 b bv be (n+(k+1)) (setV f id.author id.seq.toNat) (VS (k+1)) (ES (k+1))):=(by show GrW _ _ _ _ _ _ _ _;rw [HSV.o,HSE.o];exact⟨HG4.o.arr.grown hcur (fun e=>n13 (Option.some.inj e)),(HG4.o.verts.kept hcur (fun e=>n23 (Option.some.inj e))).mono (by omega),hm5,n23⟩);have HP5:=Lh (HP4.o.grown hcur (fun e=>npe (Option.some.inj e)));have HB5:=Lh (HB4.o.grown hcur (.inr (.inr rfl)));clear hm5 hg5 hs5 hcur hlk;go_wp2;go_roundw
   case rel=>exact⟨k+1,hlt,by go_num,HG5,HP5,HB5⟩
   simp [intOf];omega
  have e4:((o.kind.toNat:Int) == 4)=false:=by simp;omega
  generalize hy:optV (VS k o.at')=y at *;have HSV:=Lh ((HST.o.vk k o HX.o).trans (by unfold stepV;rw [if_neg (by rw [hm];simp),if_neg h4,hy]:_=updM (VS k) o.at' (killV y)));have HSE:=Lh ((HST.o.ek k o HX.o).trans (by unfold stepE;rw [if_neg (by rw [hm];simp),if_neg h4]:_=ES k));clear hm h4;have HLK:Hid (∀ x:Kept w4 (some w4.heap.size),(Instr.lookup 115 (.map (some bv)) (.agg (cV o.at')) false).run Tryz.prog x.1=.ok (vertV y) x.1):=fun x =>(TMap.lookup keysVid vertV_inj (HG4.o.verts.kept x.2 (by have:=HG4.o.verts.lt;intro e;cases e;omega)) Tryz.underlying115 (zero_vert _) o.at' trivial).trans (by rw [optV_eq,hy]);have hlk:=HLK.o;unfold vertV at hlk;clear HLK;have nwo:¬ wr.heap.size=w4.heap.size:=by omega
  have nwg:¬ b=w4.heap.size:=by omega
  have nwp:¬ w.heap.size=w4.heap.size:=by omega
  go_upto_region 8 with(first|(go_at_call 65;(with_reducible refine(pmakes_any o.kind _).mono ?_);rintro e w9 ⟨rfl,hw9⟩;obtain rfl:=hw9.symm;rw [HMK.o]))
  have hcur:World.grownBy w4 w4.drew (some w4.heap.size):=⟨rfl,rfl,rfl,Nat.le_refl _,fun _ _ _=>rfl⟩;refine wlex (C:=IsKept w4 (some w4.heap.size)) 9 [] (by kernel_rfl) (by kernel_rfl) (isKept_of hcur) ?_;simp only [Tsc,Tz,Dsc,Dz];repeat(first|refine lxq ?_|(refine lxl rfl ?_;go_wp2_with (first|fail);refine⟨isKept_of (by first|exact hcur|exact only_alloc hcur _),?_⟩))
  refine lxe ?_;clear hcur hlk;have hbx:=((Below.refl w4.heap.size w4).alloc (Nat.le_refl _) (.cells (cX y) 101)).drew;have HY7:Hid (Arr ((w4.alloc (.cells (cX y) 101)).drew) w4.heap.size [.int .u8 y.id.pid.author.toNat,.int .u16 y.id.pid.seq.toNat,.int .u8 y.id.n.toNat,.int .u8 y.kind.toNat,.int .u8 y.file.pid.author.toNat,.int .u16 y.file.pid.seq.toNat,.int .u8 y.file.n.toNat,.string y.text,.bool y.dead]):=(anw w4 (cX y) 101).drew;generalize (w4.alloc (.cells (cX y) 101)).drew=w7 at *;have y8:=HY7.o.k 8 rfl;have sy:=HY7.o.lt;have q8:=HY7.o.free 8;go_upto_region 10 with fail;have HY8:Hid (Arr (w7.setCell ⟨w4.heap.size,8,none⟩ (.bool true)) w4.heap.size [.int .u8 y.id.pid.author.toNat,.int .u16 y.id.pid.seq.toNat,.int .u8 y.id.n.toNat,.int .u8 y.kind.toNat,.int .u8 y.file.pid.author.toNat,.int .u16 y.file.pid.seq.toNat,.int .u8 y.file.n.toNat,.string y.text,.bool true]):=HY7.o.set 8 (.bool true);have hb8:=hbx.setCell (p:=⟨w4.heap.size,8,none⟩) (Nat.le_refl _) (.bool true);have HG8:=Lh (HG4.o.over hb8);have HP8:=Lh (HP4.o.over hb8);have HO8:=Lh (HO4.o.over hb8);have HB8:=Lh (HB4.o.over hb8);have nyv:¬ w4.heap.size=bv:=by have:=HG4.o.verts.lt;omega
  generalize w7.setCell ⟨w4.heap.size,8,none⟩ (.bool true)=w8 at *;clear hb8 hbx HY7 y8 sy q8 o0 o1 o2 o3 o4 o5 o6 o7 so p0 p1 p2 p3 sp g64 g65 sg HO4 HG4 HP4 HB4;obtain⟨o0,o1,o2,o3,o4,o5,o6,o7,so⟩:=HO8.o.c8;obtain⟨y0,y1,y2,y3,y4,y5,y6,y7,y8,sy⟩:=HY8.o.c9;have g64:=HG8.o.arr.cell (gCells_v _ bv be);have sg:=HG8.o.arr.lt;have hcur:World.grownBy w8 w8.drew (some bv):=⟨rfl,rfl,rfl,Nat.le_refl _,fun _ _ _=>rfl⟩;refine wlex (C:=IsKept w8 (some bv)) 8 [] (by kernel_rfl) (by kernel_rfl) (isKept_of hcur) ?_;simp only [Tsc,Tz,Dsc,Dz];repeat(first|refine lxq ?_|(refine lxl rfl ?_;go_wp2_with (first|((with_reducible show wpList _ _ _ ({dst:=_,op:=.mapUpdate _ _ _ _,type:=_,pos:=_,after:=_,guard:=_} :: _) _ _);refine wpList_tstore keysVid vertV_inj rfl _ _ _ _ rfl Tryz.underlying115 bv _ (VS k) rfl (HG8.o.verts.drew) HN.o (o.at') rfl trivial ((killV y)) rfl ?_;intro w5 hm5 hg5 hs5;replace hcur:=gtr hcur hg5));refine⟨isKept_of (by first|exact hcur|exact only_alloc hcur _),?_⟩))
  refine lxe ?_;have HG5:Hid (GrW w5 b bv be (n+(k+1)) (setV f id.author id.seq.toNat) (VS (k+1)) (ES (k+1))):=by show GrW _ _ _ _ _ _ _ _;rw [HSV.o,HSE.o];exact⟨HG8.o.arr.grown hcur (fun e=>n12 (Option.some.inj e)),hm5,(HG8.o.edges.kept hcur (fun e=>n32 (Option.some.inj e))).mono (by omega),n23⟩
  have HP5:=Lh (HP8.o.grown hcur (fun e=>npv (Option.some.inj e)));have HB5:=Lh (HB8.o.grown hcur (.inr (.inl rfl)));clear hm5 hg5 hs5 hcur;go_wp2;go_roundw
  case rel=>exact⟨k+1,hlt,by go_num,HG5,HP5,HB5⟩
  simp [intOf];omega
theorem gapply2_L(b:Nat)(L:List PatchM)(hw:WfG L)(p:PatchM)(dv ov:Value)(w:World)(bv be n:Nat)(hg:GrW w b bv be n (vecM L) (vertM L) (edgeM L))(hd:GRow encPid 2 w dv p.deps)(hv:GRow encOp 8 w ov p.ops)(hoa:Aside b bv be ov)(hl:p.ops.length≤40000)(hz:∀ o∈p.ops,o.text.size≤maxLen)(hn:n+p.ops.length≤4000000000)(hc:checkM L p=0) :
  Calls Tryz.prog 25 #[.pointer (some ⟨b,0,none⟩),patV p.id dv ov] w fun e w'=>e=.returned (.int .i64 0)∧GrW w' b bv be (n+p.ops.length) (vecM (L++[p])) (vertM (L++[p])) (edgeM (L++[p]))∧Bex b bv be w w':=by have hok:=check_ok hc;have hx:checkX (vecM L) (vertM L) p.id p.deps p.ops=0:=(checkX_eq hw p).trans hc;obtain⟨ha,_,_⟩:=next_parts (goodP_id hok.good) hok.next;refine(gapply2_any b bv be n (vecM L) (vertM L) (edgeM L) p.id dv ov p.deps p.ops _ _ w hg hw.vec hd hv hoa hl hz hn hx ha (by rw [nextF_eq];exact hok.next) (steps_ok hw hok)).mono ?_;rintro e w' ⟨rfl,hG',hb'⟩;have hG2:GrW w' b bv be (n+p.ops.length) (setV (vecM L) p.id.author p.id.seq.toNat) (vertM (L++[partP p p.ops.length])) (edgeM (L++[partP p p.ops.length])):=hG';rw [part_all,vec_step hok] at hG2;exact⟨rfl,hG2,hb'⟩
end Go.Proofs.YtjccmcgglfncdaaGreatDoor
