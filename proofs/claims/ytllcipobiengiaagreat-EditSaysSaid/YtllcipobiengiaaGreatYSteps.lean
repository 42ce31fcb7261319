/- Contracts of the graph's steps, Steps. -/
import Derived.Test.YtllcipobiengiaaGreatYSomeB
import Derived.Test.YtllcipobiengiaaGreatYNmA
import Derived.Test.YtllcipobiengiaaGreatYRefF
namespace Go.Proofs.YtllcipobiengiaaGreat
open Go Go.RowKit

theorem or_lexE(A B m n:Nat)(h1:m<4294967296)(h2:n<4294967296):orI (cmpN A B) (cmpN m n)=cmpN (A*4294967296+m) (B*4294967296+n):=by
 unfold orI
 rcases Nat.lt_trichotomy A B with h|h|h
 ·
  have h3:A*4294967296+m<B*4294967296+n:=by omega
  rw [cmpN_lt h,cmpN_lt h3,if_neg (by decide)]
 ·
  subst h
  rw [cmpN_eq rfl,if_pos rfl]
  rcases Nat.lt_trichotomy m n with h3|h3|h3
  ·
   have h4:A*4294967296+m<A*4294967296+n:=by omega
   rw [cmpN_lt h3,cmpN_lt h4]
  ·
   subst h3
   rw [cmpN_eq rfl,cmpN_eq rfl]
  ·
   have h4:A*4294967296+n<A*4294967296+m:=by omega
   rw [cmpN_gt h3,cmpN_gt h4]
 ·
  have h3:B*4294967296+n<A*4294967296+m:=by omega
  rw [cmpN_gt h,cmpN_gt h3,if_neg (by decide)]
def edgeCmp(a b:EdgeM):Int:=cmpN (edgeKey a) (edgeKey b)
theorem edge_or(a b:EdgeM):orI (cmpVid a.1 b.1) (cmpVid a.2 b.2)=edgeCmp a b:=or_lexE _ _ _ _ (packVid_lt a.2) (packVid_lt b.2)
theorem oneEdge:∀ x:EdgeM,∀ v∈encEdge x,v.oneCell'=true:=fun x v hv=>by
 simp [encEdge,encVid] at hv
 rcases hv with rfl|rfl|rfl|rfl|rfl|rfl <;> rfl
attribute [local irreducible] cmpVid orI edgeCmp
set_option maxHeartbeats 8000000 in
set_option maxRecDepth 100000 in
theorem stepCmpG(a b:EdgeM)(w:World):Calls Tryz.prog 138 #[edgeV a,edgeV b] w fun e w'=>e=.returned (.int .i64 (edgeCmp a b))∧Grew w w':=by
 have HA:=Lib.hid ((anw w #[.int .u8 a.1.pid.author.toNat,.int .u16 a.1.pid.seq.toNat,.int .u8 a.1.n.toNat,.int .u8 a.2.pid.author.toNat,.int .u16 a.2.pid.seq.toNat,.int .u8 a.2.n.toNat] 113).alloc (.cells #[.int .u8 b.1.pid.author.toNat,.int .u16 b.1.pid.seq.toNat,.int .u8 b.1.n.toNat,.int .u8 b.2.pid.author.toNat,.int .u16 b.2.pid.seq.toNat,.int .u8 b.2.n.toNat] 113))
 have HC:=Lib.hid (an2 w (.cells #[.int .u8 a.1.pid.author.toNat,.int .u16 a.1.pid.seq.toNat,.int .u8 a.1.n.toNat,.int .u8 a.2.pid.author.toNat,.int .u16 a.2.pid.seq.toNat,.int .u8 a.2.n.toNat] 113) #[.int .u8 b.1.pid.author.toNat,.int .u16 b.1.pid.seq.toNat,.int .u8 b.1.n.toNat,.int .u8 b.2.pid.author.toNat,.int .u16 b.2.pid.seq.toNat,.int .u8 b.2.n.toNat] 113)
 have HB:=Lib.hid (((Grew.refl w).alloc (.cells #[.int .u8 a.1.pid.author.toNat,.int .u16 a.1.pid.seq.toNat,.int .u8 a.1.n.toNat,.int .u8 a.2.pid.author.toNat,.int .u16 a.2.pid.seq.toNat,.int .u8 a.2.n.toNat] 113)).alloc (.cells #[.int .u8 b.1.pid.author.toNat,.int .u16 b.1.pid.seq.toNat,.int .u8 b.1.n.toNat,.int .u8 b.2.pid.author.toNat,.int .u16 b.2.pid.seq.toNat,.int .u8 b.2.n.toNat] 113))
 have HV:=Lib.hid (edge_or a b)
 unfold edgeV
 go_enter Tryz.func138,Tryz.ntmps138
 go_upto_region 1 with(fail)
 generalize hw0:(w.alloc (.cells #[.int .u8 a.1.pid.author.toNat,.int .u16 a.1.pid.seq.toNat,.int .u8 a.1.n.toNat,.int .u8 a.2.pid.author.toNat,.int .u16 a.2.pid.seq.toNat,.int .u8 a.2.n.toNat] 113)).alloc (.cells #[.int .u8 b.1.pid.author.toNat,.int .u16 b.1.pid.seq.toNat,.int .u8 b.1.n.toNat,.int .u8 b.2.pid.author.toNat,.int .u16 b.2.pid.seq.toNat,.int .u8 b.2.n.toNat] 113)=w0 at *
 clear hw0
 have c0:=HA.out.cell (j:=0) rfl
 have c1:=HA.out.cell (j:=1) rfl
 have c2:=HA.out.cell (j:=2) rfl
 have c3:=HA.out.cell (j:=3) rfl
 have c4:=HA.out.cell (j:=4) rfl
 have c5:=HA.out.cell (j:=5) rfl
 have sc:=HA.out.lt
 have d0:=HC.out.cell (j:=0) rfl
 have d1:=HC.out.cell (j:=1) rfl
 have d2:=HC.out.cell (j:=2) rfl
 have d3:=HC.out.cell (j:=3) rfl
 have d4:=HC.out.cell (j:=4) rfl
 have d5:=HC.out.cell (j:=5) rfl
 have sd:=HC.out.lt
 have hcur:Grew w0 w0.drew:=(Grew.refl _).drew
 refine wlex (C:=IsGrew w0) 13 [] (by kernel_rfl) (by kernel_rfl) (isGrew_of hcur) ?_
 simp only [List.take_succ_cons,List.take_zero,List.drop_succ_cons,List.drop_zero]
 repeat(first|(refine lxs rfl rfl ?_;simp only [Act.put,List.setIfInBounds_toArray,List.set_cons_succ,List.set_cons_zero])|(refine lxo rfl ?_;go_big_quiet_step (fail);refine wpQuiet_nil ?_)|(refine lxl rfl ?_;go_wp2_with (first|(go_at_call 49;(first|(with_reducible refine(vcmpG a.1 b.1 _).mono ?_)|(with_reducible refine(vcmpG a.2 b.2 _).mono ?_));rintro e w' ⟨rfl,hb⟩;replace hcur:=hcur.trans hb;clear hb)|(go_at_call 139;refine(orInt_any _ _ _ _ (anw _ _ _)).mono ?_;rintro e w' ⟨rfl,rfl⟩));refine⟨isGrew_of (by first|exact hcur|exact hcur.alloc _),?_⟩))
 refine lxe ?_
 go_wp2_with fail
 go_ret
 exact⟨ret_int HV.out,HB.out.trans (by first|exact hcur|exact hcur.alloc _)⟩
theorem edgeCmp_neg(a b:EdgeM):(edgeCmp a b<0)=(edgeKey a<edgeKey b):=by unfold edgeCmp;exact cmpN_neg _ _
theorem sortEdge_any{w:World}{B g cap:Nat}{xs:List EdgeM}(h:OwnAt w B 113 6 g xs.length cap (xs.flatMap encEdge))(hn:xs.length≤1000000000) :
  Calls Tryz.prog 137 #[.slice (some ⟨g,0,none⟩) xs.length cap,.func (.func 138) #[] #[]] w (SortRes edgeCmp encEdge 6 113 w B g cap xs):=by
 have hcon:=sortF_any (P:=Tryz.prog) Tryz.sortEdge (k:=6) (enc:=encEdge) Tryz.isAgg113 Tryz.sizeOf113 (fun _=>rfl) oneEdge edgeCmp (swo_key edgeKey _ edgeCmp_neg) 138 (enters_of Tryz.func138 (by kernel_rfl) rfl) (fun x y W=>stepCmpG x y W) h (by omega)
 exact hcon
theorem sortEdge_none(p:Option Addr)(cap:Nat)(fv:Value)(w:World) :
  Calls Tryz.prog 137 #[.slice p 0 cap,fv] w fun e w'=>e=.returned (.tuple #[])∧w'=w:=sortF_none Tryz.sortEdge p cap fv w
set_option maxHeartbeats 8000000 in
set_option maxRecDepth 100000 in
theorem stepsFn_any(f file:VidM)(gf:Nat)(w:World)(hF:Arr w gf [.int .u8 file.pid.author.toNat,.int .u16 file.pid.seq.toNat,.int .u8 file.n.toNat]) :
  Calls Tryz.prog 93 #[vidV f,.pointer (some ⟨gf,0,none⟩)] w fun e w'=>e=.returned (.bool (decide (f=file)))∧Below w.heap.size w w':=by
 have HX:=Lib.hid (anw w #[.int .u8 f.pid.author.toNat,.int .u16 f.pid.seq.toNat,.int .u8 f.n.toNat] 40)
 have HB:=Lib.hid (bnew (w:=w) (.cells #[.int .u8 f.pid.author.toNat,.int .u16 f.pid.seq.toNat,.int .u8 f.n.toNat] 40))
 have HF:=Lib.hid (hF.alloc (.cells #[.int .u8 f.pid.author.toNat,.int .u16 f.pid.seq.toNat,.int .u8 f.n.toNat] 40))
 have gd:=fun p q xs ys w=>guard_vid .eql p q xs ys w
 clear hF
 unfold vidV
 go_enter Tryz.func93,Tryz.ntmps93
 go_upto_region 1 with(fail)
 generalize hw0:w.alloc (.cells #[.int .u8 f.pid.author.toNat,.int .u16 f.pid.seq.toNat,.int .u8 f.n.toNat] 40)=w0 at *
 clear hw0
 have c0:=HX.out.cell (j:=0) rfl
 have c1:=HX.out.cell (j:=1) rfl
 have c2:=HX.out.cell (j:=2) rfl
 have sc:=HX.out.lt
 have f0:=HF.out.cell (j:=0) rfl
 have f1:=HF.out.cell (j:=1) rfl
 have f2:=HF.out.cell (j:=2) rfl
 have sf:=HF.out.lt
 obtain⟨b,h2⟩:∃ b,decide (f=file)=b:=⟨_,rfl⟩
 have H2:=Lib.hid h2
 cases b with
 | true =>
  have e2:=eql_vid f file true h2
  unfold vidV at e2
  clear h2
  go_wp2_with fail
  go_ret
  exact⟨rvl (congrArg Value.bool H2.out.symm),HB.out⟩
 | false =>
  have e2:=eql_vid f file false h2
  unfold vidV at e2
  clear h2
  go_wp2_with fail
  go_ret
  exact⟨rvl (congrArg Value.bool H2.out.symm),HB.out⟩

/-! ### ranging over the steps -/
def StepRel(q:VidM→Bool)(L:List PatchM)(w w1:World)(be it n:Nat)(v:Value)(wr:World):Prop:=
 ∃(left:EdgeM→Bool) (cnt:Nat) (out:List EdgeM),Hid (TRanges Tryz.prog 113 edgeV okAll vidV wr be it n (edgeM L) left cnt)∧Hid (GOwn encEdge 6 113 wr w1.heap.size v out) ∧
  Hid (∀ e,e∈out↔(∃ v,edgeM L e=some v∧q v=true)∧left e=false)∧Hid out.Nodup∧Hid (Below w.heap.size w wr)∧w1.heap.size≤wr.heap.size
theorem st_take{q:VidM→Bool}{L:List PatchM}{left:EdgeM→Bool}{out:List EdgeM}(h:∀ e,e∈out↔(∃ v,edgeM L e=some v∧q v=true)∧left e=false){x:EdgeM}{y:VidM}(hy:edgeM L x=some y)(hq:q y=true)(e:EdgeM) :
  e∈out++[x]↔(∃ v,edgeM L e=some v∧q v=true)∧(left e && !decide (e=x))=false:=by
 rw [List.mem_append,List.mem_singleton,h e]
 by_cases hx:e=x
 ·
  subst hx
  simp [hy,hq]
 ·
  simp [hx]
theorem st_skip{q:VidM→Bool}{L:List PatchM}{left:EdgeM→Bool}{out:List EdgeM}(h:∀ e,e∈out↔(∃ v,edgeM L e=some v∧q v=true)∧left e=false){x:EdgeM}{y:VidM}(hy:edgeM L x=some y)(hq:q y=false)(e:EdgeM) :
  e∈out↔(∃ v,edgeM L e=some v∧q v=true)∧(left e && !decide (e=x))=false:=by
 rw [h e]
 by_cases hx:e=x
 ·
  subst hx
  simp [hy,hq]
 ·
  simp [hx]
theorem st_new{q:VidM→Bool}{L:List PatchM}{left:EdgeM→Bool}{out:List EdgeM}(h:∀ e,e∈out↔(∃ v,edgeM L e=some v∧q v=true)∧left e=false)(hn:out.Nodup){x:EdgeM}(hl:left x=true):(out++[x]).Nodup:=by
 rw [List.nodup_append]
 refine⟨hn,by simp,fun a ha b hb e => ?_⟩
 simp at hb
 have:=((h a).1 ha).2
 rw [e,hb,hl] at this;cases this
theorem st_few{q:VidM→Bool}{L:List PatchM}{left:EdgeM→Bool}{out:List EdgeM}(h:∀ e,e∈out↔(∃ v,edgeM L e=some v∧q v=true)∧left e=false)(hn:out.Nodup):out.length≤(edgesM L).length:=
 nodup_len hn fun e he=>by
  rw [mem_edgesM]
  obtain⟨⟨v,h1,_⟩,_⟩:=(h e).1 he
  unfold edgeM at h1
  split at h1
  ·
   assumption
  ·
   cases h1
theorem st_sorted{q:VidM→Bool}{L:List PatchM}{left:EdgeM→Bool}{out ys:List EdgeM}(h:∀ e,e∈out↔(∃ v,edgeM L e=some v∧q v=true)∧left e=false)(hn:out.Nodup)(hall:∀ e,left e=false)
  (hp:ys.Perm out) (hs:ys.Pairwise fun a b=>¬ edgeCmp b a<0):ys=(edgesM L).filter fun e=>q (fileAt L e.1):=by
 refine edges_eq q ?_ fun e=>by rw [hp.mem_iff,h e];simp [hall]
 have hnd:ys.Pairwise fun a b=>a≠b:=hp.nodup_iff.2 hn
 unfold Rises
 refine(hs.and hnd).imp fun {a b} hab => ?_
 obtain⟨h1,h2⟩:=hab
 rw [edgeCmp_neg] at h1
 have:edgeKey a≠edgeKey b:=fun e=>h2 (edgeKey_hi _ _ e)
 omega
attribute [local irreducible] edgeM edgesM fileAt
set_option maxHeartbeats 8000000 in
set_option maxRecDepth 100000 in
theorem psteps_any(b:Nat)(L:List PatchM)(w:World)(hg:GrIs w b L)(hil:(edgesM L).length≤1000000)(file:VidM)(gf:Nat)(hF:Arr w gf [.int .u8 file.pid.author.toNat,.int .u16 file.pid.seq.toNat,.int .u8 file.n.toNat]) :
  Calls Tryz.prog 92 #[.pointer (some ⟨b,0,none⟩),.func (.func 93) #[] #[.pointer (some ⟨gf,0,none⟩)]] w (OwnRes encEdge 6 113 w (stepsM L file)):=by
 obtain⟨bv,be,n,hG⟩:=hg
 have hlt:=hG.arr.lt
 have hbe:=hG.edges.lt
 have g65:=hG.arr.cell (gCells_e (vecM L) bv be)
 have HG:=Lib.hid hG.edges
 have HF:=Lib.hid hF
 have HST:=Lib.hid (show(edgesM L).filter (fun e=>decide (fileAt L e.1=file))=stepsM L file from rfl)
 clear hG hF
 go_enter Tryz.func92,Tryz.ntmps92
 go_wp2_with (refine wpList_trange keysEdge rfl _ _ rfl Tryz.underlying133 be n _ rfl HG.out ?_;intro w1 cnt hR hg1 hs1)
 have HR:=Lib.hid hR
 have HB1:=Lib.hid (show Below w.heap.size w w1 from⟨hg1.os,hg1.tape,hg1.output,hg1.size,fun k hk=>hg1.block k hk (by simp)⟩)
 clear hR hg1 g65
 go_simp
 go_loopw [5] (fun v5 wr=>StepRel (fun v=>decide (v=file)) L w w1 be w.heap.size n v5 wr) (fun _ wr=>wr.rangeLeft be w.heap.size)
 case atStart=>exact⟨_,cnt,[],HR,gown_nil _ _,Lib.hid (fun x=>⟨fun q=>absurd q List.not_mem_nil,fun⟨⟨v,h1,_⟩,h2⟩=>by simp [h1] at h2⟩),Lib.hid (by simp),HB1,Nat.le_refl _⟩
 case round =>
  obtain⟨left,cnt1,out,HR1,HO,HM,HN,HBr,hsr⟩:=hrel
  rename World=>wr
  have hle:=HR1.out.left_eq
  have hfew:=st_few HM.out HN.out
  go_wp2_with (refine wpList_tnext keysEdge rfl _ rfl be w.heap.size n _ left cnt1 rfl HR1.out ?_ ?_)
  ·
   intro hall
   have HA:=Lib.hid hall
   clear hall
   rcases own_cases HO.out with⟨rfl,p,c,rfl⟩|⟨hne,g,cap,rfl,hA⟩
   ·
    have HE:=Lib.hid (st_sorted HM.out HN.out (fun e=>HA.out e.1 e.2 trivial) (List.Perm.refl _) List.Pairwise.nil)
    go_wp2_with fail
    refine(sortEdge_none _ _ _ _).mono ?_
    rintro e w2 ⟨rfl,hw2⟩
    obtain rfl:=hw2.symm
    go_wp2_with fail
    go_ret
    exact⟨_,rfl,(by rw [← HST.out,← HE.out];exact HO.out.base (by omega)),HBr.out⟩
   ·
    have HAt:=Lib.hid hA
    clear hA
    go_wp2_with fail
    refine(sortEdge_any HAt.out (by omega)).mono ?_
    rintro e w2 ⟨rfl,ys,hp,hs,hA2,hg2⟩
    have HE:=Lib.hid (st_sorted HM.out HN.out (fun e=>HA.out e.1 e.2 trivial) hp hs)
    have hyl:=hp.length_eq
    rw [← hyl] at hA2
    have HO2:Hid (GOwn encEdge 6 113 w2 w1.heap.size (.slice (some ⟨g,0,none⟩) out.length cap) ys):=by show World.ownsRow _ _ _ _ _ _ _;rw [← hyl];exact hA2.own
    have HG2:=Lib.hid hg2
    clear hp hs hA2 hg2 hyl
    go_wp2_with fail
    go_ret
    exact⟨_,rfl,(by rw [← HST.out,← HE.out];exact HO2.out.base (by omega)),HBr.out.grown HG2.out HBr.out.size fun k hk=>by cases hk;have:=HAt.out.base;omega⟩
  ·
   intro x1 x2 y w2 cnt2 hx hl hy hR2 hcl hg2 hs2 hent
   obtain⟨x,hxx⟩:∃ x:EdgeM,x=(x1,x2):=⟨_,rfl⟩
   have e1:x1=x.1:=by rw [hxx]
   have e2:x2=x.2:=by rw [hxx]
   rw [← hxx] at hl hy hR2
   rw [e1,e2] at hent
   clear hxx e1 e2 hx
   have HR2:=Lib.hid hR2
   have HY:=Lib.hid hy
   have HX:=Lib.hid hl
   have HO2:=Lib.hid (show GOwn _ _ _ w2 _ _ _ from own_grown HO.out hg2 (.inr fun q=>by have:=gown_base HO.out q;omega))
   have HB2:Hid (Below w.heap.size w w2):=HBr.out.grown hg2 HBr.out.size fun k hk=>by cases hk;exact Nat.le_refl _
   clear hR2 hy hl hg2
   unfold edgeV vidV at hent
   go_upto_region 7 with(fail)
   have hA7:=(anw w2 #[.int .u8 x.1.pid.author.toNat,.int .u16 x.1.pid.seq.toNat,.int .u8 x.1.n.toNat,.int .u8 x.2.pid.author.toNat,.int .u16 x.2.pid.seq.toNat,.int .u8 x.2.n.toNat] 113).alloc (.cells #[.int .u8 y.pid.author.toNat,.int .u16 y.pid.seq.toNat,.int .u8 y.n.toNat] 40)
   rw [hs2] at hA7
   have HA7:=Lib.hid hA7
   have hF7:=an2 w2 (.cells #[.int .u8 x.1.pid.author.toNat,.int .u16 x.1.pid.seq.toNat,.int .u8 x.1.n.toNat,.int .u8 x.2.pid.author.toNat,.int .u16 x.2.pid.seq.toNat,.int .u8 x.2.n.toNat] 113) #[.int .u8 y.pid.author.toNat,.int .u16 y.pid.seq.toNat,.int .u8 y.n.toNat] 40
   rw [hs2] at hF7
   have HF7:=Lib.hid hF7
   clear hA7 hF7
   have HB7:=Lib.hid ((bnew (w:=w2) (.cells #[.int .u8 x.1.pid.author.toNat,.int .u16 x.1.pid.seq.toNat,.int .u8 x.1.n.toNat,.int .u8 x.2.pid.author.toNat,.int .u16 x.2.pid.seq.toNat,.int .u8 x.2.n.toNat] 113)).alloc (by simp) (.cells #[.int .u8 y.pid.author.toNat,.int .u16 y.pid.seq.toNat,.int .u8 y.n.toNat] 40))
   generalize hw7:(w2.alloc (.cells #[.int .u8 x.1.pid.author.toNat,.int .u16 x.1.pid.seq.toNat,.int .u8 x.1.n.toNat,.int .u8 x.2.pid.author.toNat,.int .u16 x.2.pid.seq.toNat,.int .u8 x.2.n.toNat] 113)).alloc (.cells #[.int .u8 y.pid.author.toNat,.int .u16 y.pid.seq.toNat,.int .u8 y.n.toNat] 40)=w7 at *
   clear hw7 hent
   have hs7:=HB7.out.size
   have y0:=HF7.out.cell (j:=0) rfl
   have y1:=HF7.out.cell (j:=1) rfl
   have y2:=HF7.out.cell (j:=2) rfl
   have sy:=HF7.out.lt
   go_wp2_with fail
   refine(stepsFn_any y file gf _ (HF.out.over (bov HB2.out HB2.out.size HB7.out))).mono ?_
   rintro e w8 ⟨rfl,hb8⟩
   have HB8:=Lib.hid (bov HB7.out HB7.out.size hb8)
   have HA8:=Lib.hid (HA7.out.over hb8)
   have hs8:=HB8.out.size
   have HR8:=Lib.hid (HR2.out.kept (below_none HB8.out) (by simp) (by simp))
   have HO8:=Lib.hid (HO2.out.over HB8.out)
   have HBB8:=Lib.hid (bov HB2.out HB2.out.size HB8.out)
   clear hb8 y0 y1 y2 sy
   have z0:=HA8.out.cell (j:=0) rfl
   have z1:=HA8.out.cell (j:=1) rfl
   have z2:=HA8.out.cell (j:=2) rfl
   have z3:=HA8.out.cell (j:=3) rfl
   have z4:=HA8.out.cell (j:=4) rfl
   have z5:=HA8.out.cell (j:=5) rfl
   have sz:=HA8.out.lt
   have hle2:=HR8.out.left_eq
   cases hq:decide (y=file) with
   | false =>
    have HM2:=Lib.hid (st_skip HM.out HY.out hq)
    clear hq
    go_wp2_with fail
    go_roundw
    case rel=>exact⟨_,cnt2,out,HR8,HO8,HM2,HN,HBB8,by omega⟩
    case measure=>show World.rangeLeft _ _ _<World.rangeLeft _ _ _;omega
   | true =>
    have HM2:=Lib.hid (st_take HM.out HY.out hq)
    have HN2:=Lib.hid (st_new HM.out HN.out HX.out)
    have hNl:out.length+1≤1099511627776:=by omega
    have hB8:w1.heap.size≤w8.heap.size:=by omega
    clear hq
    go_wp2_with (at_builtin;refine apD slEdge rfl _ _ rfl w1.heap.size _ _ (drf _) 1 _ _ _ HO8.out rfl rfl rfl rfl hNl (by decide) hB8 ?_;intro v9 w9 ho9 hg9)
    have HR9:=Lib.hid (HR8.out.grow HO8.out hg9 (by omega) (by omega))
    have hle9:=HR9.out.left_eq
    have hs9:=hg9.size
    go_roundw
    case rel=>exact⟨_,cnt2,out++[x],HR9,GOwn.snoc ho9,HM2,HN2,HBB8.out.grown hg9 HBB8.out.size (fun k hk=>by have:=gown_base HO8.out hk;omega),by omega⟩
    case measure=>show World.rangeLeft _ _ _<World.rangeLeft _ _ _;omega
set_option maxHeartbeats 8000000 in
set_option maxRecDepth 100000 in
theorem gsteps_any(b:Nat)(L:List PatchM)(file:VidM)(w:World)(hg:GrIs w b L)(hil:(edgesM L).length≤1000000) :
  Calls Tryz.prog 50 #[.pointer (some ⟨b,0,none⟩),vidV file] w (OwnRes encEdge 6 113 w (stepsM L file)):=by
 have HF:=Lib.hid (anw w #[.int .u8 file.pid.author.toNat,.int .u16 file.pid.seq.toNat,.int .u8 file.n.toNat] 40)
 have HB:=Lib.hid (bnew (w:=w) (.cells #[.int .u8 file.pid.author.toNat,.int .u16 file.pid.seq.toNat,.int .u8 file.n.toNat] 40))
 have HG:=Lib.hid hg
 clear hg
 unfold vidV
 go_enter Tryz.func50,Tryz.ntmps50
 go_upto_region 1 with(fail)
 generalize hw0:w.alloc (.cells #[.int .u8 file.pid.author.toNat,.int .u16 file.pid.seq.toNat,.int .u8 file.n.toNat] 40)=w0 at *
 clear hw0
 go_wp2_with fail
 refine(psteps_any b L _ (HG.out.over HB.out) hil file w.heap.size HF.out).mono ?_
 rintro e w1 ⟨v,rfl,ho,hb⟩
 have HO:=Lib.hid (ho.base HB.out.size)
 have HB1:=Lib.hid (bov HB.out HB.out.size hb)
 clear ho hb
 go_wp2_with fail
 go_ret
 exact⟨_,rfl,HO.out,HB1.out⟩
end Go.Proofs.YtllcipobiengiaaGreat
