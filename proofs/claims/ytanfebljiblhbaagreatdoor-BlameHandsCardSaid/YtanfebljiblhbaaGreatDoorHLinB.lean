/- Contracts of the graph's steps, Steps. Contract of lines.Of. -/
import Derived.Test.YtanfebljiblhbaaGreatDoorHNmA
import Derived.Test.YtanfebljiblhbaaGreatDoorHRefF
set_option linter.unusedVariables false
set_option linter.unusedSimpArgs false
namespace Go.Proofs.YtanfebljiblhbaaGreatDoor
open Go Go.RowKit

theorem or_lexE(A B m n:Nat)(h1:m<4294967296)(h2:n<4294967296):orI (cmpN A B) (cmpN m n)=cmpN (A*4294967296+m) (B*4294967296+n):=by
 unfold orI
 rcases Nat.lt_trichotomy A B with h|h|h
 ·
  have h3:A*4294967296+m<B*4294967296+n:=by omega
  rw [cmpN_lt h,cmpN_lt h3,if_neg (by decide)]
 ·
  subst h
  rw [cmpN_eq rfl,if_pos rfl]
  rcases Nat.lt_trichotomy m n with h3|h3|h3
  ·
   have h4:A*4294967296+m<A*4294967296+n:=by omega
   rw [cmpN_lt h3,cmpN_lt h4]
  ·
   subst h3
   rw [cmpN_eq rfl,cmpN_eq rfl]
  ·
   have h4:A*4294967296+n<A*4294967296+m:=by omega
   rw [cmpN_gt h3,cmpN_gt h4]
 ·
  have h3:B*4294967296+n<A*4294967296+m:=by omega
  rw [cmpN_gt h,cmpN_gt h3,if_neg (by decide)]
def edgeCmp(a b:EdgeM):Int:=cmpN (edgeKey a) (edgeKey b)
theorem edge_or(a b:EdgeM):orI (cmpVid a.1 b.1) (cmpVid a.2 b.2)=edgeCmp a b:=or_lexE _ _ _ _ (packVid_lt a.2) (packVid_lt b.2)
theorem oneEdge:∀ x:EdgeM,∀ v∈encEdge x,v.oneCell'=true:=fun x v hv=>by
 simp [encEdge,encVid] at hv
 rcases hv with rfl|rfl|rfl|rfl|rfl|rfl <;> rfl
attribute [local irreducible] cmpVid orI edgeCmp
set_option maxHeartbeats 8000000 in
set_option maxRecDepth 100000 in
theorem stepCmpG(a b:EdgeM)(w:World):Calls Tryz.prog 188 #[edgeV a,edgeV b] w fun e w'=>e=.returned (.int .i64 (edgeCmp a b))∧Grew w w':=by
 have HA:=Lib.hid ((arr_new w #[.int .u8 a.1.pid.author.toNat,.int .u16 a.1.pid.seq.toNat,.int .u8 a.1.n.toNat,.int .u8 a.2.pid.author.toNat,.int .u16 a.2.pid.seq.toNat,.int .u8 a.2.n.toNat] 143).alloc (.cells #[.int .u8 b.1.pid.author.toNat,.int .u16 b.1.pid.seq.toNat,.int .u8 b.1.n.toNat,.int .u8 b.2.pid.author.toNat,.int .u16 b.2.pid.seq.toNat,.int .u8 b.2.n.toNat] 143))
 have HC:=Lib.hid (arr_new2 w (.cells #[.int .u8 a.1.pid.author.toNat,.int .u16 a.1.pid.seq.toNat,.int .u8 a.1.n.toNat,.int .u8 a.2.pid.author.toNat,.int .u16 a.2.pid.seq.toNat,.int .u8 a.2.n.toNat] 143) #[.int .u8 b.1.pid.author.toNat,.int .u16 b.1.pid.seq.toNat,.int .u8 b.1.n.toNat,.int .u8 b.2.pid.author.toNat,.int .u16 b.2.pid.seq.toNat,.int .u8 b.2.n.toNat] 143)
 have HB:=Lib.hid (((Grew.refl w).alloc (.cells #[.int .u8 a.1.pid.author.toNat,.int .u16 a.1.pid.seq.toNat,.int .u8 a.1.n.toNat,.int .u8 a.2.pid.author.toNat,.int .u16 a.2.pid.seq.toNat,.int .u8 a.2.n.toNat] 143)).alloc (.cells #[.int .u8 b.1.pid.author.toNat,.int .u16 b.1.pid.seq.toNat,.int .u8 b.1.n.toNat,.int .u8 b.2.pid.author.toNat,.int .u16 b.2.pid.seq.toNat,.int .u8 b.2.n.toNat] 143))
 have HV:=Lib.hid (edge_or a b)
 unfold edgeV
 go_enter Tryz.func188,Tryz.ntmps188
 go_upto_region 1 with(fail)
 generalize hw0:(w.alloc (.cells #[.int .u8 a.1.pid.author.toNat,.int .u16 a.1.pid.seq.toNat,.int .u8 a.1.n.toNat,.int .u8 a.2.pid.author.toNat,.int .u16 a.2.pid.seq.toNat,.int .u8 a.2.n.toNat] 143)).alloc (.cells #[.int .u8 b.1.pid.author.toNat,.int .u16 b.1.pid.seq.toNat,.int .u8 b.1.n.toNat,.int .u8 b.2.pid.author.toNat,.int .u16 b.2.pid.seq.toNat,.int .u8 b.2.n.toNat] 143)=w0 at *
 clear hw0
 have c0:=HA.out.cell (j:=0) rfl
 have c1:=HA.out.cell (j:=1) rfl
 have c2:=HA.out.cell (j:=2) rfl
 have c3:=HA.out.cell (j:=3) rfl
 have c4:=HA.out.cell (j:=4) rfl
 have c5:=HA.out.cell (j:=5) rfl
 have sc:=HA.out.lt
 have d0:=HC.out.cell (j:=0) rfl
 have d1:=HC.out.cell (j:=1) rfl
 have d2:=HC.out.cell (j:=2) rfl
 have d3:=HC.out.cell (j:=3) rfl
 have d4:=HC.out.cell (j:=4) rfl
 have d5:=HC.out.cell (j:=5) rfl
 have sd:=HC.out.lt
 have hcur:Grew w0 w0.drew:=(Grew.refl _).drew
 refine wp_region_lex (C:=IsGrew w0) 13 [] (by kernel_rfl) (by kernel_rfl) (isGrew_of hcur) ?_
 simp only [List.take_succ_cons,List.take_zero,List.drop_succ_cons,List.drop_zero]
 repeat(first|(refine lex_skip rfl rfl ?_;simp only [Act.put,List.setIfInBounds_toArray,List.set_cons_succ,List.set_cons_zero])|(refine lex_one rfl ?_;go_big_quiet_step (fail);refine wpQuiet_nil ?_)|(refine lex_loud rfl ?_;go_wp2_with (first|(go_at_call 75;(first|(with_reducible refine(vcmpG a.1 b.1 _).mono ?_)|(with_reducible refine(vcmpG a.2 b.2 _).mono ?_));rintro e w' ⟨rfl,hb⟩;replace hcur:=hcur.trans hb;clear hb)|(go_at_call 180;refine(orInt_any _ _ _ _ (arr_new _ _ _)).mono ?_;rintro e w' ⟨rfl,rfl⟩));refine⟨isGrew_of (by first|exact hcur|exact hcur.alloc _),?_⟩))
 refine lex_end ?_
 go_wp2_with fail
 go_ret
 exact⟨ret_int HV.out,HB.out.trans (by first|exact hcur|exact hcur.alloc _)⟩
theorem edgeCmp_neg(a b:EdgeM):(edgeCmp a b<0)=(edgeKey a<edgeKey b):=by unfold edgeCmp;exact cmpN_neg _ _
theorem sortEdge_any{w:World}{B g cap:Nat}{xs:List EdgeM}(h:OwnAt w B 143 6 g xs.length cap (xs.flatMap encEdge))(hn:xs.length≤1000000000) :
  Calls Tryz.prog 187 #[.slice (some ⟨g,0,none⟩) xs.length cap,.func (.func 188) #[] #[]] w (SortRes edgeCmp encEdge 6 143 w B g cap xs):=by
 have hcon:=sortF_any (P:=Tryz.prog) Tryz.sortEdge (k:=6) (enc:=encEdge) Tryz.isAgg143 Tryz.sizeOf143 (fun _=>rfl) oneEdge edgeCmp (swo_key edgeKey _ edgeCmp_neg) 188 (enters_of Tryz.func188 (by kernel_rfl) rfl) (fun x y W=>stepCmpG x y W) h (by omega)
 exact hcon
theorem sortEdge_none(p:Option Addr)(cap:Nat)(fv:Value)(w:World) :
  Calls Tryz.prog 187 #[.slice p 0 cap,fv] w fun e w'=>e=.returned (.tuple #[])∧w'=w:=sortF_none Tryz.sortEdge p cap fv w
set_option maxHeartbeats 8000000 in
set_option maxRecDepth 100000 in
theorem stepsFn_any(f file:VidM)(gf:Nat)(w:World)(hF:Arr w gf [.int .u8 file.pid.author.toNat,.int .u16 file.pid.seq.toNat,.int .u8 file.n.toNat]) :
  Calls Tryz.prog 127 #[vidV f,.pointer (some ⟨gf,0,none⟩)] w fun e w'=>e=.returned (.bool (decide (f=file)))∧Below w.heap.size w w':=by
 have HX:=Lib.hid (arr_new w #[.int .u8 f.pid.author.toNat,.int .u16 f.pid.seq.toNat,.int .u8 f.n.toNat] 27)
 have HB:=Lib.hid (below_new (w:=w) (.cells #[.int .u8 f.pid.author.toNat,.int .u16 f.pid.seq.toNat,.int .u8 f.n.toNat] 27))
 have HF:=Lib.hid (hF.alloc (.cells #[.int .u8 f.pid.author.toNat,.int .u16 f.pid.seq.toNat,.int .u8 f.n.toNat] 27))
 have gd:=fun p q xs ys w=>guard_vid .eql p q xs ys w
 clear hF
 unfold vidV
 go_enter Tryz.func127,Tryz.ntmps127
 go_upto_region 1 with(fail)
 generalize hw0:w.alloc (.cells #[.int .u8 f.pid.author.toNat,.int .u16 f.pid.seq.toNat,.int .u8 f.n.toNat] 27)=w0 at *
 clear hw0
 have c0:=HX.out.cell (j:=0) rfl
 have c1:=HX.out.cell (j:=1) rfl
 have c2:=HX.out.cell (j:=2) rfl
 have sc:=HX.out.lt
 have f0:=HF.out.cell (j:=0) rfl
 have f1:=HF.out.cell (j:=1) rfl
 have f2:=HF.out.cell (j:=2) rfl
 have sf:=HF.out.lt
 obtain⟨b,h2⟩:∃ b,decide (f=file)=b:=⟨_,rfl⟩
 have H2:=Lib.hid h2
 cases b with
 | true =>
  have e2:=eql_vid f file true h2
  unfold vidV at e2
  clear h2
  go_wp2_with fail
  go_ret
  exact⟨ret_val (congrArg Value.bool H2.out.symm),HB.out⟩
 | false =>
  have e2:=eql_vid f file false h2
  unfold vidV at e2
  clear h2
  go_wp2_with fail
  go_ret
  exact⟨ret_val (congrArg Value.bool H2.out.symm),HB.out⟩

/-! ### ranging over the steps -/
def StepRel(q:VidM→Bool)(L:List PatchM)(w w1:World)(be it n:Nat)(v:Value)(wr:World):Prop:=
 ∃(left:EdgeM→Bool) (cnt:Nat) (out:List EdgeM),Hid (TRanges Tryz.prog 143 edgeV okAll vidV wr be it n (edgeM L) left cnt)∧Hid (GOwn encEdge 6 143 wr w1.heap.size v out) ∧
  Hid (∀ e,e∈out↔(∃ v,edgeM L e=some v∧q v=true)∧left e=false)∧Hid out.Nodup∧Hid (Below w.heap.size w wr)∧w1.heap.size≤wr.heap.size
theorem st_take{q:VidM→Bool}{L:List PatchM}{left:EdgeM→Bool}{out:List EdgeM}(h:∀ e,e∈out↔(∃ v,edgeM L e=some v∧q v=true)∧left e=false){x:EdgeM}{y:VidM}(hy:edgeM L x=some y)(hq:q y=true)(e:EdgeM) :
  e∈out++[x]↔(∃ v,edgeM L e=some v∧q v=true)∧(left e && !decide (e=x))=false:=by
 rw [List.mem_append,List.mem_singleton,h e]
 by_cases hx:e=x
 ·
  subst hx
  simp [hy,hq]
 ·
  simp [hx]
theorem st_skip{q:VidM→Bool}{L:List PatchM}{left:EdgeM→Bool}{out:List EdgeM}(h:∀ e,e∈out↔(∃ v,edgeM L e=some v∧q v=true)∧left e=false){x:EdgeM}{y:VidM}(hy:edgeM L x=some y)(hq:q y=false)(e:EdgeM) :
  e∈out↔(∃ v,edgeM L e=some v∧q v=true)∧(left e && !decide (e=x))=false:=by
 rw [h e]
 by_cases hx:e=x
 ·
  subst hx
  simp [hy,hq]
 ·
  simp [hx]
theorem st_new{q:VidM→Bool}{L:List PatchM}{left:EdgeM→Bool}{out:List EdgeM}(h:∀ e,e∈out↔(∃ v,edgeM L e=some v∧q v=true)∧left e=false)(hn:out.Nodup){x:EdgeM}(hl:left x=true):(out++[x]).Nodup:=by
 rw [List.nodup_append]
 refine⟨hn,by simp,fun a ha b hb e => ?_⟩
 simp at hb
 have:=((h a).1 ha).2
 rw [e,hb,hl] at this;cases this
theorem st_few{q:VidM→Bool}{L:List PatchM}{left:EdgeM→Bool}{out:List EdgeM}(h:∀ e,e∈out↔(∃ v,edgeM L e=some v∧q v=true)∧left e=false)(hn:out.Nodup):out.length≤(edgesM L).length:=
 nodup_len hn fun e he=>by
  rw [mem_edgesM]
  obtain⟨⟨v,h1,_⟩,_⟩:=(h e).1 he
  unfold edgeM at h1
  split at h1
  ·
   assumption
  ·
   cases h1
theorem st_sorted{q:VidM→Bool}{L:List PatchM}{left:EdgeM→Bool}{out ys:List EdgeM}(h:∀ e,e∈out↔(∃ v,edgeM L e=some v∧q v=true)∧left e=false)(hn:out.Nodup)(hall:∀ e,left e=false)
  (hp:ys.Perm out) (hs:ys.Pairwise fun a b=>¬ edgeCmp b a<0):ys=(edgesM L).filter fun e=>q (fileAt L e.1):=by
 refine edges_eq q ?_ fun e=>by rw [hp.mem_iff,h e];simp [hall]
 have hnd:ys.Pairwise fun a b=>a≠b:=hp.nodup_iff.2 hn
 unfold Rises
 refine(hs.and hnd).imp fun {a b} hab => ?_
 obtain⟨h1,h2⟩:=hab
 rw [edgeCmp_neg] at h1
 have:edgeKey a≠edgeKey b:=fun e=>h2 (edgeKey_hi _ _ e)
 omega
attribute [local irreducible] edgeM edgesM fileAt
set_option maxHeartbeats 8000000 in
set_option maxRecDepth 100000 in
theorem psteps_any(b:Nat)(L:List PatchM)(w:World)(hg:GrIs w b L)(hil:(edgesM L).length≤1000000)(file:VidM)(gf:Nat)(hF:Arr w gf [.int .u8 file.pid.author.toNat,.int .u16 file.pid.seq.toNat,.int .u8 file.n.toNat]) :
  Calls Tryz.prog 126 #[.pointer (some ⟨b,0,none⟩),.func (.func 127) #[] #[.pointer (some ⟨gf,0,none⟩)]] w (OwnRes encEdge 6 143 w (stepsM L file)):=by
 obtain⟨bv,be,n,hG⟩:=hg
 have hlt:=hG.arr.lt
 have hbe:=hG.edges.lt
 have g65:=hG.arr.cell (gCells_e (vecM L) bv be)
 have HG:=Lib.hid hG.edges
 have HF:=Lib.hid hF
 have HST:=Lib.hid (show(edgesM L).filter (fun e=>decide (fileAt L e.1=file))=stepsM L file from rfl)
 clear hG hF
 go_enter Tryz.func126,Tryz.ntmps126
 go_wp2_with (refine wpList_trange keysEdge rfl _ _ rfl Tryz.underlying133 be n _ rfl HG.out ?_;intro w1 cnt hR hg1 hs1)
 have HR:=Lib.hid hR
 have HB1:=Lib.hid (show Below w.heap.size w w1 from⟨hg1.os,hg1.tape,hg1.output,hg1.size,fun k hk=>hg1.block k hk (by simp)⟩)
 clear hR hg1 g65
 go_simp
 go_loopw [5] (fun v5 wr=>StepRel (fun v=>decide (v=file)) L w w1 be w.heap.size n v5 wr) (fun _ wr=>wr.rangeLeft be w.heap.size)
 case atStart=>exact⟨_,cnt,[],HR,gown_nil _ _,Lib.hid (fun x=>⟨fun q=>absurd q List.not_mem_nil,fun⟨⟨v,h1,_⟩,h2⟩=>by simp [h1] at h2⟩),Lib.hid (by simp),HB1,Nat.le_refl _⟩
 case round =>
  obtain⟨left,cnt1,out,HR1,HO,HM,HN,HBr,hsr⟩:=hrel
  rename World=>wr
  have hle:=HR1.out.left_eq
  have hfew:=st_few HM.out HN.out
  go_wp2_with (refine wpList_tnext keysEdge rfl _ rfl be w.heap.size n _ left cnt1 rfl HR1.out ?_ ?_)
  ·
   intro hall
   have HA:=Lib.hid hall
   clear hall
   rcases own_cases HO.out with⟨rfl,p,c,rfl⟩|⟨hne,g,cap,rfl,hA⟩
   ·
    have HE:=Lib.hid (st_sorted HM.out HN.out (fun e=>HA.out e.1 e.2 trivial) (List.Perm.refl _) List.Pairwise.nil)
    go_wp2_with fail
    refine(sortEdge_none _ _ _ _).mono ?_
    rintro e w2 ⟨rfl,hw2⟩
    obtain rfl:=hw2.symm
    go_wp2_with fail
    go_ret
    exact⟨_,rfl,(by rw [← HST.out,← HE.out];exact HO.out.base (by omega)),HBr.out⟩
   ·
    have HAt:=Lib.hid hA
    clear hA
    go_wp2_with fail
    refine(sortEdge_any HAt.out (by omega)).mono ?_
    rintro e w2 ⟨rfl,ys,hp,hs,hA2,hg2⟩
    have HE:=Lib.hid (st_sorted HM.out HN.out (fun e=>HA.out e.1 e.2 trivial) hp hs)
    have hyl:=hp.length_eq
    rw [← hyl] at hA2
    have HO2:Hid (GOwn encEdge 6 143 w2 w1.heap.size (.slice (some ⟨g,0,none⟩) out.length cap) ys):=by show World.ownsRow _ _ _ _ _ _ _;rw [← hyl];exact hA2.own
    have HG2:=Lib.hid hg2
    clear hp hs hA2 hg2 hyl
    go_wp2_with fail
    go_ret
    exact⟨_,rfl,(by rw [← HST.out,← HE.out];exact HO2.out.base (by omega)),HBr.out.grown HG2.out HBr.out.size fun k hk=>by cases hk;have:=HAt.out.base;omega⟩
  ·
   intro x1 x2 y w2 cnt2 hx hl hy hR2 hcl hg2 hs2 hent
   obtain⟨x,hxx⟩:∃ x:EdgeM,x=(x1,x2):=⟨_,rfl⟩
   have e1:x1=x.1:=by rw [hxx]
   have e2:x2=x.2:=by rw [hxx]
   rw [← hxx] at hl hy hR2
   rw [e1,e2] at hent
   clear hxx e1 e2 hx
   have HR2:=Lib.hid hR2
   have HY:=Lib.hid hy
   have HX:=Lib.hid hl
   have HO2:=Lib.hid (show GOwn _ _ _ w2 _ _ _ from own_grown HO.out hg2 (.inr fun q=>by have:=gown_base HO.out q;omega))
   have HB2:Hid (Below w.heap.size w w2):=HBr.out.grown hg2 HBr.out.size fun k hk=>by cases hk;exact Nat.le_refl _
   clear hR2 hy hl hg2
   unfold edgeV vidV at hent
   go_upto_region 7 with(fail)
   have hA7:=(arr_new w2 #[.int .u8 x.1.pid.author.toNat,.int .u16 x.1.pid.seq.toNat,.int .u8 x.1.n.toNat,.int .u8 x.2.pid.author.toNat,.int .u16 x.2.pid.seq.toNat,.int .u8 x.2.n.toNat] 143).alloc (.cells #[.int .u8 y.pid.author.toNat,.int .u16 y.pid.seq.toNat,.int .u8 y.n.toNat] 27)
   rw [hs2] at hA7
   have HA7:=Lib.hid hA7
   have hF7:=arr_new2 w2 (.cells #[.int .u8 x.1.pid.author.toNat,.int .u16 x.1.pid.seq.toNat,.int .u8 x.1.n.toNat,.int .u8 x.2.pid.author.toNat,.int .u16 x.2.pid.seq.toNat,.int .u8 x.2.n.toNat] 143) #[.int .u8 y.pid.author.toNat,.int .u16 y.pid.seq.toNat,.int .u8 y.n.toNat] 27
   rw [hs2] at hF7
   have HF7:=Lib.hid hF7
   clear hA7 hF7
   have HB7:=Lib.hid ((below_new (w:=w2) (.cells #[.int .u8 x.1.pid.author.toNat,.int .u16 x.1.pid.seq.toNat,.int .u8 x.1.n.toNat,.int .u8 x.2.pid.author.toNat,.int .u16 x.2.pid.seq.toNat,.int .u8 x.2.n.toNat] 143)).alloc (by simp) (.cells #[.int .u8 y.pid.author.toNat,.int .u16 y.pid.seq.toNat,.int .u8 y.n.toNat] 27))
   generalize hw7:(w2.alloc (.cells #[.int .u8 x.1.pid.author.toNat,.int .u16 x.1.pid.seq.toNat,.int .u8 x.1.n.toNat,.int .u8 x.2.pid.author.toNat,.int .u16 x.2.pid.seq.toNat,.int .u8 x.2.n.toNat] 143)).alloc (.cells #[.int .u8 y.pid.author.toNat,.int .u16 y.pid.seq.toNat,.int .u8 y.n.toNat] 27)=w7 at *
   clear hw7 hent
   have hs7:=HB7.out.size
   have y0:=HF7.out.cell (j:=0) rfl
   have y1:=HF7.out.cell (j:=1) rfl
   have y2:=HF7.out.cell (j:=2) rfl
   have sy:=HF7.out.lt
   go_wp2_with fail
   refine(stepsFn_any y file gf _ (HF.out.over (below_over HB2.out HB2.out.size HB7.out))).mono ?_
   rintro e w8 ⟨rfl,hb8⟩
   have HB8:=Lib.hid (below_over HB7.out HB7.out.size hb8)
   have HA8:=Lib.hid (HA7.out.over hb8)
   have hs8:=HB8.out.size
   have HR8:=Lib.hid (HR2.out.kept (below_none HB8.out) (by simp) (by simp))
   have HO8:=Lib.hid (HO2.out.over HB8.out)
   have HBB8:=Lib.hid (below_over HB2.out HB2.out.size HB8.out)
   clear hb8 y0 y1 y2 sy
   have z0:=HA8.out.cell (j:=0) rfl
   have z1:=HA8.out.cell (j:=1) rfl
   have z2:=HA8.out.cell (j:=2) rfl
   have z3:=HA8.out.cell (j:=3) rfl
   have z4:=HA8.out.cell (j:=4) rfl
   have z5:=HA8.out.cell (j:=5) rfl
   have sz:=HA8.out.lt
   have hle2:=HR8.out.left_eq
   cases hq:decide (y=file) with
   | false =>
    have HM2:=Lib.hid (st_skip HM.out HY.out hq)
    clear hq
    go_wp2_with fail
    go_roundw
    case rel=>exact⟨_,cnt2,out,HR8,HO8,HM2,HN,HBB8,by omega⟩
    case measure=>show World.rangeLeft _ _ _<World.rangeLeft _ _ _;omega
   | true =>
    have HM2:=Lib.hid (st_take HM.out HY.out hq)
    have HN2:=Lib.hid (st_new HM.out HN.out HX.out)
    have hNl:out.length+1≤1099511627776:=by omega
    have hB8:w1.heap.size≤w8.heap.size:=by omega
    clear hq
    go_wp2_with (at_builtin;(first|refine wpList_append_newD slEdge rfl _ _ rfl w1.heap.size _ _ (drawn_alloc_drewN _ _ _) 1 _ _ _ HO8.out rfl rfl rfl rfl hNl (by decide) hB8 ?_|refine wpList_append_newD slEdge rfl _ _ rfl w1.heap.size _ _ (drawn_drew _) 1 _ _ _ HO8.out rfl rfl rfl rfl hNl (by decide) hB8 ?_|refine wpList_append_newD slEdge rfl _ _ rfl w1.heap.size _ _ (drawn_drewN _ _) 1 _ _ _ HO8.out rfl rfl rfl rfl hNl (by decide) hB8 ?_|refine wpList_append_newD slEdge rfl _ _ rfl w1.heap.size _ _ (drawn_refl _) 1 _ _ _ HO8.out rfl rfl rfl rfl hNl (by decide) hB8 ?_);intro v9 w9 ho9 hg9)
    have HR9:=Lib.hid (HR8.out.grow HO8.out hg9 (by omega) (by omega))
    have hle9:=HR9.out.left_eq
    have hs9:=hg9.size
    go_roundw
    case rel=>exact⟨_,cnt2,out++[x],HR9,GOwn.snoc ho9,HM2,HN2,HBB8.out.grown hg9 HBB8.out.size (fun k hk=>by have:=gown_base HO8.out hk;omega),by omega⟩
    case measure=>show World.rangeLeft _ _ _<World.rangeLeft _ _ _;omega
set_option maxHeartbeats 8000000 in
set_option maxRecDepth 100000 in
theorem gsteps_any(b:Nat)(L:List PatchM)(file:VidM)(w:World)(hg:GrIs w b L)(hil:(edgesM L).length≤1000000) :
  Calls Tryz.prog 76 #[.pointer (some ⟨b,0,none⟩),vidV file] w (OwnRes encEdge 6 143 w (stepsM L file)):=by
 have HF:=Lib.hid (arr_new w #[.int .u8 file.pid.author.toNat,.int .u16 file.pid.seq.toNat,.int .u8 file.n.toNat] 27)
 have HB:=Lib.hid (below_new (w:=w) (.cells #[.int .u8 file.pid.author.toNat,.int .u16 file.pid.seq.toNat,.int .u8 file.n.toNat] 27))
 have HG:=Lib.hid hg
 clear hg
 unfold vidV
 go_enter Tryz.func76,Tryz.ntmps76
 go_upto_region 1 with(fail)
 generalize hw0:w.alloc (.cells #[.int .u8 file.pid.author.toNat,.int .u16 file.pid.seq.toNat,.int .u8 file.n.toNat] 27)=w0 at *
 clear hw0
 go_wp2_with fail
 refine(psteps_any b L _ (HG.out.over HB.out) hil file w.heap.size HF.out).mono ?_
 rintro e w1 ⟨v,rfl,ho,hb⟩
 have HO:=Lib.hid (ho.base HB.out.size)
 have HB1:=Lib.hid (below_over HB.out HB.out.size hb)
 clear ho hb
 go_wp2_with fail
 go_ret
 exact⟨_,rfl,HO.out,HB1.out⟩
end Go.Proofs.YtanfebljiblhbaaGreatDoor
namespace Go.Proofs.YtanfebljiblhbaaGreatDoor
open Go Go.RowKit

/-- block s is the sheet of the lines l, with the steps R -/
def ShAt(w:World)(s:Nat)(l:List VertM)(R:List (Nat × Nat)):Prop:=∃ lp lc r op oc,Arr w s [.slice lp l.length lc,.pointer (some ⟨r,0,none⟩),.slice op l.length oc]∧GRow encVert 9 w (.slice lp l.length lc) l∧RelAt w r l.length R∧GRow encI 1 w (.slice op l.length oc) (orderM R l.length)
theorem ShAt.over{w w':World}{s:Nat}{l:List VertM}{R:List (Nat × Nat)}(h:ShAt w s l R)(hb:Below w.heap.size w w'):ShAt w' s l R:=by
 obtain⟨lp,lc,r,op,oc,h1,h2,h3,h4⟩:=h
 exact⟨lp,lc,r,op,oc,h1.over hb,h2.over hb,h3.over hb,h4.over hb⟩
theorem orderM_len(R:List (Nat × Nat))(n:Nat):(orderM R n).length=n:=by
 have h1:=orderTo_len R n n
 have h2:=whole_len (orderTo_whole R n n)
 unfold orderM;omega
theorem vown_form{w:World}{B:Nat}{e:TypeId}{v:Value}{xs:List VertM}(h:GOwn encVert 9 e w B v xs):∃ p c,v=.slice p xs.length c:=by
 obtain⟨a,cap,e1,_⟩:=h.row.at encVert_len
 exact⟨a,cap,e1⟩
theorem lines_few{L:List PatchM}{file:VidM}(h:(idsM L).length≤65536):(linesM L file).length≤65536:=by
 refine Nat.le_trans (List.length_filter_le _ _) ?_
 unfold vertsM;rw [List.length_map];exact h
theorem lines_rise{L:List PatchM}(hw:WfG L)(file:VidM):Rises vertKey (linesM L file):=List.Pairwise.filter _ (rises_vertsM (wf_len hw))
theorem steps_few{L:List PatchM}{file:VidM}(h:(edgesM L).length≤1000000):(stepsM L file).length≤1000000:=Nat.le_trans (List.length_filter_le _ _) h
theorem grown_lift{w w':World}(hb:Below w.heap.size w w')(row:Option Nat):w.grownBy w' row:=⟨hb.os,hb.tape,hb.output,hb.size,fun i hi _=>hb.block i hi⟩
theorem linesM_eq(L:List PatchM)(file:VidM):ofM L file 3=linesM L file:=rfl
/-- the same, and that the lines lie in blocks of its own -/
def LofL(w:World)(l:List VertM)(R:List (Nat × Nat))(e:Ending)(w':World):Prop:=∃ s,e=.returned (.pointer (some ⟨s,0,none⟩))∧w.heap.size≤s∧ShAt w' s l R∧Below w.heap.size w w'∧∃ lp lc v1 v2,Arr w' s [.slice lp l.length lc,v1,v2]∧GOwn encVert 9 86 w' w.heap.size (.slice lp l.length lc) l
def LoRel(w3:World)(R:List (Nat × Nat))(v7 v20:Value)(wr:World):Prop:=∃ k:Nat,k≤R.length∧v20=.int .i64 k∧Hid (GOwn encP 2 158 wr w3.heap.size v7 (R.take k))∧Hid (Below w3.heap.size w3 wr)
theorem take_snoc{w:World}{B:Nat}{e:TypeId}{v:Value}{R:List (Nat × Nat)}{k:Nat}{s:Nat × Nat}(hs:R[k]? = some s)(h:GOwn encP 2 e w B v (R.take k++[s])):GOwn encP 2 e w B v (R.take (k+1)):=by rw [take_one hs];exact h
attribute [local irreducible] placeM linesM relM stepsM orderM
set_option maxHeartbeats 8000000 in
set_option maxRecDepth 100000 in
def relE(ls:List VertM)(es:List EdgeM):List (Nat × Nat):=es.map fun e=>(placeM ls e.1,placeM ls e.2)
theorem lofL_gen(p:Option Addr)(ls:List VertM)(es:List EdgeM)(file:VidM)(w:World)(hof:∀ W,Below w.heap.size w W→Calls Tryz.prog 71 #[.pointer p,vidV file,.int .u8 3] W (OwnRes encVert 9 86 W ls))
  (hst:∀ W,Below w.heap.size w W→Calls Tryz.prog 76 #[.pointer p,vidV file] W (OwnRes encEdge 6 143 W es)) (hll:ls.length≤65536) (hel:es.length≤1000000) (hri:Rises vertKey ls)
  (hen:∀ e∈es,e.1∈ls.map (·.id)∧e.2∈ls.map (·.id)) (hlt:∀ s∈relE ls es,s.1<ls.length∧s.2<ls.length) :
  Calls Tryz.prog 35 #[.pointer p,vidV file] w (LofL w ls (relE ls es)):=by
 have HF:=Lib.hid (arr_new w #[.int .u8 file.pid.author.toNat,.int .u16 file.pid.seq.toNat,.int .u8 file.n.toNat] 27)
 have HB:=Lib.hid (below_new (w:=w) (.cells #[.int .u8 file.pid.author.toNat,.int .u16 file.pid.seq.toNat,.int .u8 file.n.toNat] 27))
 have HOf:=Lib.hid hof
 have HSt:=Lib.hid hst
 have hrf:(relE ls es).length≤1000000:=by unfold relE;rw [List.length_map];exact hel
 have HRLn:Hid ((relE ls es).length=es.length):=Lib.hid (by unfold relE;rw [List.length_map])
 have HRI:=Lib.hid hri
 have HAt:Hid (∀(k:Nat) (e:EdgeM),es[k]? = some e→(relE ls es)[k]? = some (placeM ls e.1,placeM ls e.2)):=Lib.hid (fun k e h=>by unfold relE;rw [List.getElem?_map,h];rfl)
 have HEn:=Lib.hid hen
 have HLt:=Lib.hid hlt
 clear hof hst hri hen hlt
 unfold vidV
 go_enter Tryz.func35,Tryz.ntmps35
 go_upto_region 1 with(fail)
 generalize hw0:w.alloc (.cells #[.int .u8 file.pid.author.toNat,.int .u16 file.pid.seq.toNat,.int .u8 file.n.toNat] 27)=w0 at *
 clear hw0
 have f0:=HF.out.cell (j:=0) rfl
 have f1:=HF.out.cell (j:=1) rfl
 have f2:=HF.out.cell (j:=2) rfl
 have sf:=HF.out.lt
 go_wp2_with fail
 refine(HOf.out _ HB.out).mono ?_
 rintro e w1 ⟨lv,rfl,ho1,hb1⟩
 obtain⟨lp,lc,rfl⟩:=vown_form ho1
 have HO1:=Lib.hid ho1
 have HB1:=Lib.hid hb1
 clear ho1 hb1 f0 f1 f2 sf
 go_upto_region 2 with(fail)
 have HS2:=Lib.hid (show ArrT ((w1.alloc (.cells #[.slice lp ls.length lc,.pointer none,.slice none 0 0] 150)).alloc (.cells #[.pointer (some ⟨w1.heap.size,0,none⟩)] 78)) w1.heap.size 150 [.slice lp ls.length lc,.pointer none,.slice none 0 0] from ArrT.over (arrT_new w1 [.slice lp ls.length lc,.pointer none,.slice none 0 0] 150) (below_new _))
 have HC2:=Lib.hid (show ArrT ((w1.alloc (.cells #[.slice lp ls.length lc,.pointer none,.slice none 0 0] 150)).alloc (.cells #[.pointer (some ⟨w1.heap.size,0,none⟩)] 78)) (w1.heap.size+1) 78 [.pointer (some ⟨w1.heap.size,0,none⟩)] from(show(w1.alloc (.cells #[.slice lp ls.length lc,.pointer none,.slice none 0 0] 150)).heap.size=w1.heap.size+1 by simp)▸arrT_new (w1.alloc (.cells #[.slice lp ls.length lc,.pointer none,.slice none 0 0] 150)) [.pointer (some ⟨w1.heap.size,0,none⟩)] 78)
 have HB2:=Lib.hid ((below_new (w:=w1) (.cells #[.slice lp ls.length lc,.pointer none,.slice none 0 0] 150)).alloc (by simp) (.cells #[.pointer (some ⟨w1.heap.size,0,none⟩)] 78))
 generalize hw2:(w1.alloc (.cells #[.slice lp ls.length lc,.pointer none,.slice none 0 0] 150)).alloc (.cells #[.pointer (some ⟨w1.heap.size,0,none⟩)] 78)=w2 at *
 clear hw2
 have hs0:w.heap.size≤w1.heap.size:=Nat.le_trans HB.out.size HB1.out.size
 have hsl:w1.heap.size<w2.heap.size:=HS2.out.arr.lt
 obtain⟨s,hs⟩:∃ s,s=w1.heap.size:=⟨_,rfl⟩
 have HS3:=HS2.out
 have HC3:=HC2.out
 rw [← hs] at HS3 HC3 hs0 hsl ⊢
 obtain⟨c,hc⟩:∃ c,c=s+1:=⟨_,rfl⟩
 rw [← hc] at HC3 ⊢
 have HS:=Lib.hid HS3
 have HC:=Lib.hid HC3
 have HO2:=Lib.hid (HO1.out.over HB2.out)
 have HF2:=Lib.hid (HF.out.over (below_over HB1.out HB1.out.size HB2.out))
 have HBB:=Lib.hid (below_over HB.out HB.out.size (below_over HB1.out HB1.out.size HB2.out))
 have hcs:c≠s:=by omega
 clear hs hc HS3 HC3 HS2 HC2 HO1
 have f0:=HF2.out.cell (j:=0) rfl
 have f1:=HF2.out.cell (j:=1) rfl
 have f2:=HF2.out.cell (j:=2) rfl
 have sf:=HF2.out.lt
 go_wp2_with fail
 refine(HSt.out _ HBB.out).mono ?_
 rintro e w3 ⟨ev,rfl,ho3,hb3⟩
 obtain⟨ep,ec,rfl,z1,z2,hce⟩:=ho3.row.at encEdge_len
 unfold maxLen at z2
 have HCE:=Lib.hid hce
 have HB3:=Lib.hid hb3
 have HS3:=Lib.hid (HS.out.over hb3)
 have HC3:=Lib.hid (HC.out.over hb3)
 have HO3:=Lib.hid (HO2.out.over hb3)
 clear ho3 hb3 hce f0 f1 f2 sf
 rw [← HRLn.out] at z1 ⊢
 go_wp2_with fail
 go_loopw [7,20] (fun v7 v20 wr=>LoRel w3 (relE ls es) v7 v20 wr) (fun _ v20 _=>(relE ls es).length - (intOf v20).toNat)
 case atStart=>exact⟨0,by omega,rfl,Lib.hid (by rw [List.take_zero];exact gown_nil _ _),Below.refl _ _⟩
 case round =>
  obtain⟨k,hk,rfl,HM,hbl⟩:=hrel
  rename World=>wr
  by_cases hlt:k<(relE ls es).length
  ·
   obtain⟨b3,off3,rfl,sb3,hcb⟩:=HCE.out.resolve_left (by rw [← HRLn.out];omega)
   obtain⟨x,hx⟩:=get_of_lt (xs:=es) (i:=k) (by rw [← HRLn.out];exact hlt)
   have HX:=Lib.hid (HAt.out k x hx)
   obtain⟨hm1,hm2⟩:=HEn.out x (List.mem_of_getElem? hx)
   have HM1:=Lib.hid hm1
   have HM2:=Lib.hid hm2
   have HRx:=Lib.hid (hcb k x hx wr hbl.out)
   have x0:wr.cell? ⟨b3,off3+k*6,none⟩=some (.int .u8 x.1.pid.author.toNat):=(HRx.out).2 0 _ rfl
   have x1:wr.cell? ⟨b3,off3+k*6+1,none⟩=some (.int .u16 x.1.pid.seq.toNat):=(HRx.out).2 1 _ rfl
   have x2:wr.cell? ⟨b3,off3+k*6+2,none⟩=some (.int .u8 x.1.n.toNat):=(HRx.out).2 2 _ rfl
   have x3:wr.cell? ⟨b3,off3+k*6+3,none⟩=some (.int .u8 x.2.pid.author.toNat):=(HRx.out).2 3 _ rfl
   have x4:wr.cell? ⟨b3,off3+k*6+4,none⟩=some (.int .u16 x.2.pid.seq.toNat):=(HRx.out).2 4 _ rfl
   have x5:wr.cell? ⟨b3,off3+k*6+5,none⟩=some (.int .u8 x.2.n.toNat):=(HRx.out).2 5 _ rfl
   have sx:=HRx.out.1
   clear hcb hx hm1 hm2
   go_upto_region 7 with(fail)
   have HA7:=Lib.hid (arr_new wr #[.int .u8 x.1.pid.author.toNat,.int .u16 x.1.pid.seq.toNat,.int .u8 x.1.n.toNat,.int .u8 x.2.pid.author.toNat,.int .u16 x.2.pid.seq.toNat,.int .u8 x.2.n.toNat] 143)
   have HB7:=Lib.hid (below_new (w:=wr) (.cells #[.int .u8 x.1.pid.author.toNat,.int .u16 x.1.pid.seq.toNat,.int .u8 x.1.n.toNat,.int .u8 x.2.pid.author.toNat,.int .u16 x.2.pid.seq.toNat,.int .u8 x.2.n.toNat] 143))
   generalize hw7:wr.alloc (.cells #[.int .u8 x.1.pid.author.toNat,.int .u16 x.1.pid.seq.toNat,.int .u8 x.1.n.toNat,.int .u8 x.2.pid.author.toNat,.int .u16 x.2.pid.seq.toNat,.int .u8 x.2.n.toNat] 143)=w7 at *
   clear hw7 x0 x1 x2 x3 x4 x5 sx
   have HM7:=Lib.hid (HM.out.over HB7.out)
   have hb7:=below_over hbl.out hbl.out.size HB7.out
   have HS7:=Lib.hid (HS3.out.over hb7)
   have HC7:=Lib.hid (HC3.out.over hb7)
   have HO7:=Lib.hid (HO3.out.over hb7)
   have HBl7:=Lib.hid hb7
   have hB7:=hb7.size
   have hN7:((relE ls es).take k).length+1≤1099511627776:=by rw [List.length_take];omega
   clear hb7
   have y0:=HA7.out.cell (j:=0) rfl
   have y1:=HA7.out.cell (j:=1) rfl
   have y2:=HA7.out.cell (j:=2) rfl
   have y3:=HA7.out.cell (j:=3) rfl
   have y4:=HA7.out.cell (j:=4) rfl
   have y5:=HA7.out.cell (j:=5) rfl
   have sy:=HA7.out.lt
   have hcur:Below w7.heap.size w7 w7.drew:=(Below.refl _ _).drew
   refine wp_region_lex (C:=IsOver w7) 11 [] (by kernel_rfl) (by kernel_rfl) (isOver_of hcur) ?_
   simp only [List.take_succ_cons,List.take_zero,List.drop_succ_cons,List.drop_zero]
   repeat(first|(refine lex_skip rfl rfl ?_;simp only [Act.put,List.setIfInBounds_toArray,List.set_cons_succ,List.set_cons_zero])|(refine lex_one rfl ?_;go_big_quiet_step (fail);refine wpQuiet_nil ?_)|(refine lex_loud rfl ?_;go_wp2_with (first|(go_at_call 72;(first|(with_reducible refine(lat_any x.1 c s lp lc _ _ ls _ (HC7.out.arr.over hcur) (HS7.out.arr.over hcur) (HO7.out.row.over hcur) HRI.out HM1.out (by omega)).mono ?_)|(with_reducible refine(lat_any x.2 c s lp lc _ _ ls _ (HC7.out.arr.over hcur) (HS7.out.arr.over hcur) (HO7.out.row.over hcur) HRI.out HM2.out (by omega)).mono ?_));rintro e w' ⟨rfl,hb⟩;replace hcur:=below_over hcur hcur.size hb;clear hb));refine⟨isOver_of (by first|exact hcur|exact hcur.alloc hcur.size _),?_⟩))
   refine lex_end ?_
   have HM8:=Lib.hid (HM7.out.over hcur)
   have HB8:=Lib.hid (below_over HBl7.out HBl7.out.size hcur)
   have hB8:=HB8.out.size
   clear hcur y0 y1 y2 y3 y4 y5 sy
   go_wp2_with (at_builtin;(first|refine wpList_append_newD slPair rfl _ _ rfl w3.heap.size _ _ (drawn_alloc_drewN _ _ _) 1 _ _ _ HM8.out rfl rfl rfl rfl hN7 (by decide) hB8 ?_|refine wpList_append_newD slPair rfl _ _ rfl w3.heap.size _ _ (drawn_drew _) 1 _ _ _ HM8.out rfl rfl rfl rfl hN7 (by decide) hB8 ?_|refine wpList_append_newD slPair rfl _ _ rfl w3.heap.size _ _ (drawn_drewN _ _) 1 _ _ _ HM8.out rfl rfl rfl rfl hN7 (by decide) hB8 ?_|refine wpList_append_newD slPair rfl _ _ rfl w3.heap.size _ _ (drawn_refl _) 1 _ _ _ HM8.out rfl rfl rfl rfl hN7 (by decide) hB8 ?_);intro v9 w9 ho9 hg9)
   go_roundw
   case rel=>exact⟨k+1,hlt,by go_num,Lib.hid (take_snoc HX.out (GOwn.snoc ho9)),below_grown HB8.out hB8 HM8.out hg9⟩
   case measure=>simp [intOf];omega
  ·
   obtain rfl:k=(relE ls es).length:=by omega
   have hE:=HM.out
   rw [List.take_length] at hE
   have HE:=Lib.hid hE
   obtain⟨rp,rc,rfl,t1,t2,_⟩:=prow_at hE.row
   unfold maxLen at t2
   have HSr:=Lib.hid (HS3.out.over hbl.out)
   have HCr:=Lib.hid (HC3.out.over hbl.out)
   have HOr:=Lib.hid (HO3.out.over hbl.out)
   clear hE HM
   have c0:=HCr.out.arr.cell (j:=0) rfl
   have sc:=HCr.out.arr.lt
   have s0:=HSr.out.arr.cell (j:=0) rfl
   have ss:=HSr.out.arr.lt
   go_wp2_with fail
   have hcur:Below wr.heap.size wr wr.drew:=(Below.refl _ _).drew
   refine wp_region_lex (C:=IsOver wr) 10 [] (by kernel_rfl) (by kernel_rfl) (isOver_of hcur) ?_
   simp only [List.take_succ_cons,List.take_zero,List.drop_succ_cons,List.drop_zero]
   repeat(first|(refine lex_skip rfl rfl ?_;simp only [Act.put,List.setIfInBounds_toArray,List.set_cons_succ,List.set_cons_zero])|(refine lex_one rfl ?_;go_big_quiet_step (fail);refine wpQuiet_nil ?_)|(refine lex_loud rfl ?_;go_wp2_with (first|(go_at_call 77;(with_reducible refine(rchOf_any ls.length _ (relE ls es) _ (HE.out.row.over hcur) HLt.out hll (by omega)).mono ?_);rintro e w' ⟨r,rfl,hr,hrel,hkeep,hb⟩;have HRel:=Lib.hid hrel;have hxs:wr.heap.size≤_:=hcur.size;have HKeep:=Lib.hid hkeep;replace hcur:=below_over hcur hcur.size hb;clear hb hrel hkeep hr));refine⟨isOver_of hcur,?_⟩))
   refine lex_end ?_
   have HO9:=Lib.hid (HOr.out.over hcur)
   have HS9:=Lib.hid (HSr.out.over hcur)
   have HC9:=Lib.hid (HCr.out.over hcur)
   have HB9:=Lib.hid (below_over (below_over HBB.out HBB.out.size HB3.out) (Nat.le_trans HBB.out.size HB3.out.size) (below_over hbl.out hbl.out.size hcur))
   rename World=>w9
   clear hcur c0 sc s0 ss
   have s1:=HS9.out.arr.cell (j:=1) rfl
   have f1:=HS9.out.arr.free 1
   have ss:=HS9.out.arr.lt
   go_upto_region 10 with(fail)
   have HSa:=Lib.hid (HS9.out.set 1 (.pointer (some ⟨r,0,none⟩)))
   have HCa:=Lib.hid (HC9.out.set_other (a:=⟨s,1,none⟩) (show c≠s from hcs) (.pointer (some ⟨r,0,none⟩)))
   have hga:=grown_setCell (g:=s) w9 1 (.pointer (some ⟨r,0,none⟩))
   have HOa:=Lib.hid (own_kept HO9.out hga (HS9.out.ne HO9.out (by decide)))
   have hsw9:s<wr.heap.size:=HSr.out.arr.lt
   have HRa:=Lib.hid (HKeep.out _ s (by omega) hga)
   have HGa:=Lib.hid hga
   have HBa:=Lib.hid (HB9.out.setCell (p:=⟨s,1,none⟩) hs0 (.pointer (some ⟨r,0,none⟩)))
   simp only [List.set_cons_succ,List.set_cons_zero] at HSa
   generalize hwa:w9.setCell ⟨s,1,none⟩ (.pointer (some ⟨r,0,none⟩))=wa at *
   clear hwa hga s1 f1 ss
   have c0:=HCa.out.arr.cell (j:=0) rfl
   have sc:=HCa.out.arr.lt
   have s1:=HSa.out.arr.cell (j:=1) rfl
   have ss:=HSa.out.arr.lt
   have hcur:Below wa.heap.size wa wa.drew:=(Below.refl _ _).drew
   refine wp_region_lex (C:=IsOver wa) 8 [] (by kernel_rfl) (by kernel_rfl) (isOver_of hcur) ?_
   simp only [List.take_succ_cons,List.take_zero,List.drop_succ_cons,List.drop_zero]
   repeat(first|(refine lex_skip rfl rfl ?_;simp only [Act.put,List.setIfInBounds_toArray,List.set_cons_succ,List.set_cons_zero])|(refine lex_one rfl ?_;go_big_quiet_step (fail);refine wpQuiet_nil ?_)|(refine lex_loud rfl ?_;go_wp2_with (first|(go_at_call 78;(with_reducible refine(order_any r ls.length (relE ls es) _ (HRa.out.over hcur)).mono ?_);rintro e w' ⟨ov,rfl,hov,hb⟩;have HOV:=Lib.hid hov;have hxs:=hcur.size;replace hcur:=below_over hcur hcur.size hb;clear hb hov));refine⟨isOver_of hcur,?_⟩))
   refine lex_end ?_
   rename World=>wd
   obtain⟨op,oc,rfl⟩:=own_form HOV.out
   rw [orderM_len]
   have HO4:=HOV.out
   rw [orderM_len] at HO4
   have HOq:=Lib.hid HO4
   have HSd:=Lib.hid (HSa.out.over hcur)
   have HCd:=Lib.hid (HCa.out.over hcur)
   have HLd:=Lib.hid (HOa.out.over hcur)
   have HGd:=Lib.hid (grown_trans HGa.out (grown_lift hcur (some s)))
   have HBd:=Lib.hid (below_over HBa.out HBa.out.size hcur)
   clear hcur HO4 HOV c0 sc s1 ss
   have s2:=HSd.out.arr.cell (j:=2) rfl
   have f2:=HSd.out.arr.free 2
   have ss:=HSd.out.arr.lt
   go_upto_region 11 with(fail)
   have hge:=grown_setCell (g:=s) wd 2 (.slice op ls.length oc)
   have HRe:=Lib.hid (HKeep.out _ s (by omega) (grown_trans HGd.out hge))
   have HSe:=Lib.hid (HSd.out.set 2 (.slice op ls.length oc))
   have HCe:=Lib.hid (HCd.out.set_other (a:=⟨s,2,none⟩) (show c≠s from hcs) (.slice op ls.length oc))
   have HLe:=Lib.hid (own_kept HLd.out hge (HSd.out.ne HLd.out (by decide)))
   have HOe:=Lib.hid (own_kept HOq.out hge (HSd.out.ne HOq.out (by decide)))
   have HBe:=Lib.hid (HBd.out.setCell (p:=⟨s,2,none⟩) hs0 (.slice op ls.length oc))
   generalize hwe:wd.setCell ⟨s,2,none⟩ (.slice op ls.length oc)=we at *
   clear hwe hge s2 f2 ss
   have c0:=HCe.out.arr.cell (j:=0) rfl
   have sc:=HCe.out.arr.lt
   go_wp2_with fail
   go_ret
   exact⟨s,rfl,hs0,⟨lp,lc,r,op,oc,HSe.out.arr,HLe.out.row,HRe.out,HOe.out.row⟩,HBe.out,lp,lc,_,_,HSe.out.arr,HLe.out.base HB.out.size⟩
theorem lofL_any(b:Nat)(L:List PatchM)(file:VidM)(w:World)(hg:GrIs w b L)(hw:WfG L)(hil:(idsM L).length≤65536)(hel:(edgesM L).length≤1000000) :
  Calls Tryz.prog 35 #[.pointer (some ⟨b,0,none⟩),vidV file] w (LofL w (linesM L file) (relM L file)):=by
 have hr:relE (linesM L file) (stepsM L file)=relM L file:=by unfold relE relM;rfl
 rw [← hr]
 exact lofL_gen (some ⟨b,0,none⟩) (linesM L file) (stepsM L file) file w (fun W h=>by have h9:=gof_any b L file 3 W (hg.over h) hw (by omega);rw [linesM_eq] at h9;exact h9) (fun W h=>gsteps_any b L file W (hg.over h) hel) (lines_few hil) (steps_few hel) (lines_rise hw file) (fun e he=>step_ends hw (wf_len hw) he) (by rw [hr];exact relM_lt hw (wf_len hw) file)
end Go.Proofs.YtanfebljiblhbaaGreatDoor
