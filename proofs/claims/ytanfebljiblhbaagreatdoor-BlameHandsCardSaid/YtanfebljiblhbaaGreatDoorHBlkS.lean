/- Contract of reach.Of. Contract of topo.ahead. The reference's relations: contracts of ref08.in, behind, ref09.in. The reference's relations: contracts of ref08.Has, Alike, Before, Group, Of. Contracts of ref09.free, Order. Contract of topo.Order. Contracts of block.cut, block.some. Blocks in memory: rows within rows. Contract of block.some. The side of a place, found from place to place: plain. -/
import Derived.Test.YtanfebljiblhbaaGreatDoorHBlkP
import Derived.Test.YtanfebljiblhbaaGreatDoorHLcsC
import Derived.Test.YtanfebljiblhbaaGreatDoorHPDeps
set_option linter.unusedVariables false
set_option linter.unusedSimpArgs false
namespace Go.Proofs.YtanfebljiblhbaaGreatDoor
open Go Go.RowKit

theorem encPr_len(p:Nat × Nat):(encP p).length=2:=rfl
theorem slIntI:SlT Tryz.prog 89 3 1 8:=slT_of Tryz.underlying89 (by kernel_rfl) (by decide)
/-- the map's words -/
def relF(FS:List Nat)(B:Nat→Nat × Nat):Int→Option (Option Nat):=fun x:Int=>if 0≤x∧x.toNat∈FS then some (some (B x.toNat).1) else none
theorem RelW.mapF{w:World}{r n m N base:Nat}{FS:List Nat}{B:Nat→Nat × Nat}{P:Nat→Nat→Prop}(h:RelW w r n m N base FS B P):TMap Tryz.prog 3 numV okInt ptrV w m N (relF FS B):=h.map
theorem relF_yes{FS:List Nat}{B:Nat→Nat × Nat}{i:Nat}(hi:i∈FS):ptrV ((relF FS B (i:Int)).getD none)=.pointer (some ⟨(B i).1,0,none⟩):=by
 unfold relF
 simp only [Int.natCast_nonneg,Int.toNat_natCast,hi,and_self,if_true,Option.getD_some,ptrV]
theorem relF_no{FS:List Nat}{B:Nat→Nat × Nat}{i:Nat}(hi:i ∉ FS):ptrV ((relF FS B (i:Int)).getD none)=.pointer none:=by
 unfold relF
 simp only [Int.toNat_natCast,hi,and_false,if_false,Option.getD_none,ptrV]
theorem own_int{w:World}{B b off n cap k x:Nat}{xs:List Nat}{e:TypeId}(h:GOwn encI 1 e w B (.slice (some ⟨b,off,none⟩) n cap) xs)(hx:xs[k]? = some x):b<w.heap.size∧w.cell? ⟨b,off+k,none⟩=some (.int .i64 x):=by
 obtain⟨a,cap',e1,_,_,hc⟩:=h.row.at encI_len
 have hlt:=(List.getElem?_eq_some_iff.1 hx).1
 cases e1
 rcases hc with h0|⟨b',off',e2,hb,hcell⟩
 ·
  omega
 ·
  cases e2
  have:=(hcell k x hx w (Below.refl _ _)).2 0 _ rfl
  rw [Nat.mul_one,Nat.add_zero] at this
  exact⟨hb,this⟩
theorem own_kept{α:Type}{enc:α→List Value}{sz:Nat}{e:TypeId}{w w':World}{B g:Nat}{v:Value}{xs:List α}(h:GOwn enc sz e w B v xs)(hg:w.grownBy w' (some g))(hn:some g≠v.ownBlock):GOwn enc sz e w' B v xs:=own_grown h hg (.inr fun q=>hn q.symm)
theorem mem_take_succ{L:List (Nat × Nat)}{k:Nat}{s x:Nat × Nat}(h:L[k]? = some s):x∈L.take (k+1)↔x∈L.take k∨x=s:=by rw [take_one h];simp
theorem fs_in{L:List (Nat × Nat)}{FS:List Nat}{k:Nat}{s:Nat × Nat}(h:L[k]? = some s)(hF:∀ i,i∈FS↔∃ j,(i,j)∈L.take k)(hi:s.1∈FS):∀ i,i∈FS↔∃ j,(i,j)∈L.take (k+1):=fun i=>by
 rw [hF i]
 constructor
 ·
  rintro⟨j,hj⟩;exact⟨j,(mem_take_succ h).2 (.inl hj)⟩
 ·
  rintro⟨j,hj⟩
  rcases (mem_take_succ h).1 hj with hj|rfl
  ·
   exact⟨j,hj⟩
  ·
   exact(hF i).1 hi
theorem fs_out{L:List (Nat × Nat)}{FS:List Nat}{k:Nat}{s:Nat × Nat}(h:L[k]? = some s)(hF:∀ i,i∈FS↔∃ j,(i,j)∈L.take k):∀ i,i∈FS++[s.1]↔∃ j,(i,j)∈L.take (k+1):=fun i=>by
 rw [List.mem_append,List.mem_singleton,hF i]
 constructor
 ·
  rintro(⟨j,hj⟩|rfl)
  ·
   exact⟨j,(mem_take_succ h).2 (.inl hj)⟩
  ·
   exact⟨s.2,(mem_take_succ h).2 (.inr rfl)⟩
 ·
  rintro⟨j,hj⟩
  rcases (mem_take_succ h).1 hj with hj|rfl
  ·
   exact .inl ⟨j,hj⟩
  ·
   exact .inr rfl
/-- what a Put makes of a relation under way -/
theorem RelW.putTo{w w':World}{r n m N base a b k:Nat}{FS:List Nat}{B:Nat→Nat × Nat}{L:List (Nat × Nat)}{e:Ending}{ws:List Nat}(h:RelW w r n m N base FS B (fun i j=>(i,j)∈L.take k))(hi:a∈FS)(hs:L[k]? = some (a,b))(hb:b<n)
  (hws:∀ j,bitW ws j=true↔(a,j)∈L.take k) (hp:PutRes (B a).1 (B a).2 n b ws w e w'):(∃ ok:Bool,e=.returned (.bool ok))∧RelW w' r n m N base FS B (fun i j=>(i,j)∈L.take (k+1))∧w.grownBy w' (some (B a).2):=by
 obtain⟨ok,ws',rfl,h1,h2,h3,h4,_⟩:=hp
 refine⟨⟨ok,rfl⟩,h.turn hi h1 h2 h4 (fun j => ?_) (fun i' _ hne j => ?_),h4⟩
 ·
  rw [h3,Bool.or_eq_true,hws,mem_take_succ hs]
  simp [hb]
 ·
  rw [mem_take_succ hs]
  simp [hne]
def OfRel(w:World)(r n m:Nat)(L:List (Nat × Nat))(v6 v22:Value)(wr:World):Prop:=
 ∃(k N:Nat) (FS:List Nat) (B:Nat→Nat × Nat),k≤L.length∧v22=.int .i64 k∧N≤k∧Hid (RelW wr r n m N m FS B (fun i j=>(i,j)∈L.take k))∧Hid (GOwn encI 1 3 wr m v6 FS) ∧
  Hid (∀ i,i∈FS↔∃ j,(i,j)∈L.take k)∧Hid FS.Nodup∧FS.length≤k∧Hid (Below w.heap.size w wr)
def WhRel(w:World)(r n m N:Nat)(FS:List Nat)(B:Nat→Nat × Nat)(L:List (Nat × Nat))(v6:Value)(v72:Value)(wr:World):Prop:=
 ∃ t:Nat,t≤FS.length∧v72=.int .i64 t∧Hid (RelW wr r n m N m FS B (PVia L FS t 0))∧Hid (GOwn encI 1 3 wr m v6 FS)∧Hid (Below w.heap.size w wr)
def WiRel(w:World)(r n m N t:Nat)(FS:List Nat)(B:Nat→Nat × Nat)(L:List (Nat × Nat))(v6:Value)(v78:Value)(wr:World):Prop:=
 ∃ u:Nat,u≤FS.length∧v78=.int .i64 u∧Hid (RelW wr r n m N m FS B (PVia L FS t u))∧Hid (GOwn encI 1 3 wr m v6 FS)∧Hid (Below w.heap.size w wr)
/-- what an Or makes of it -/
theorem RelW.orTo{w w':World}{r n m N base i k t u:Nat}{FS:List Nat}{B:Nat→Nat × Nat}{L:List (Nat × Nat)}{e:Ending}{ws wt:List Nat}(hnd:FS.Nodup)(h:RelW w r n m N base FS B (PVia L FS t u))(hi:i∈FS)(hu:FS[u]? = some i)(ht:FS[t]? = some k)
  (hk:SetOk n ws) (kt:SetOk n wt) (hws:∀ j,bitW ws j=true↔PVia L FS t u i j) (hwt:∀ j,bitW wt j=true↔PVia L FS t u k j) (hbit:bitW ws k=true) (hp:OrRes (B i).1 (B i).2 n ws wt w e w') :
  (∃ ok:Bool,e=.returned (.bool ok))∧RelW w' r n m N base FS B (PVia L FS t (u+1))∧w.grownBy w' (some (B i).2):=by
 obtain⟨more,rfl,h1,h2⟩:=hp
 refine⟨⟨more,rfl⟩,h.turn hi h1 (hk.or kt) h2 (fun j => ?_) (fun i' _ hne j=>pvia_other hu hne),h2⟩
 have hb1:=(pvia_at hnd hu).1 ((hws k).1 hbit)
 rw [bit_or (by rw [hk.len,kt.len]),Bool.or_eq_true,hws,hwt,pvia_at hnd hu,pvia_self ht,pvia_next hu ht]
 exact⟨fun q=>q.elim .inl fun q=>.inr ⟨hb1,q⟩,fun q=>q.elim .inl fun q=>.inr q.2⟩
theorem RelW.orNo{w:World}{r n m N base i k t u:Nat}{FS:List Nat}{B:Nat→Nat × Nat}{L:List (Nat × Nat)}{ws:List Nat}(hnd:FS.Nodup)(h:RelW w r n m N base FS B (PVia L FS t u))(hu:FS[u]? = some i)(ht:FS[t]? = some k)
  (hws:∀ j,bitW ws j=true↔PVia L FS t u i j) (hbit:bitW ws k=false):RelW w r n m N base FS B (PVia L FS t (u+1)):=by
 refine h.congr fun i' _ j => ?_
 by_cases hne:i'=i
 ·
  subst hne
  rw [pvia_at hnd hu,pvia_next hu ht]
  refine⟨.inl,fun q=>q.elim id fun q => ?_⟩
  have:=(hws k).2 ((pvia_at hnd hu).2 q.1)
  rw [hbit] at this;cases this
 ·
  exact pvia_other hu hne
theorem encW_inj:∀(x y:List Nat),encW x=encW y→x=y
 | [],[],_=>rfl
 | [],_ :: _,h=>by unfold encW at h;simp at h
 | _ :: _,[],h=>by unfold encW at h;simp at h
 | a :: x,b :: y,h=>by
  unfold encW at h
  simp only [List.map_cons,List.cons.injEq,Value.int.injEq,true_and] at h
  rw [encW_inj x y h.2,Int.ofNat_inj.1 h.1]
theorem RelW.with'{w:World}{r n m N base i k:Nat}{FS:List Nat}{B:Nat→Nat × Nat}{P:Nat→Nat→Prop}(h:RelW w r n m N base FS B P)(hi:i∈FS)(hk:k∈FS){ws wt:List Nat}(s:SetAt w (B i).1 (B i).2 n ws)(s':SetAt w (B k).1 (B k).2 n wt):OrWith (B i).1 (B i).2 (B k).1 (B k).2 ws wt:=by
 by_cases he:i=k
 ·
  subst he
  refine .inl ⟨rfl,rfl,?_⟩
  have hh:=s.words.det s'.words
  exact(encW_inj _ _ hh).symm
 ·
  exact .inr ⟨fun e=>h.apart k hk i hi (fun q=>he q.symm) e,s'.head_words s,s.head_words s'⟩
theorem RelW.keptLow{w w':World}{r n m N base k:Nat}{FS:List Nat}{B:Nat→Nat × Nat}{P:Nat→Nat→Prop}(h:RelW w r n m N base FS B P)(hg:w.grownBy w' (some k))(hk:k<base):RelW w' r n m N base FS B P:=
 ⟨h.arrT.kept hg (fun e=>by cases e;have:=h.low.1;omega),h.map.kept hg (fun e=>by cases e;have:=h.low.2.1;omega),fun i hi=>by
  obtain⟨ws,s1,s2⟩:=h.sets i hi
  exact⟨ws,s1.grown hg (fun e=>by cases e;have:=(h.low.2.2 i hi).1;omega) (fun e=>by cases e;have:=(h.low.2.2 i hi).2;omega),s2⟩,h.apart,h.low⟩
def RchRes(w:World)(n:Nat)(L:List (Nat × Nat))(e:Ending)(w':World):Prop:=∃ r,e=.returned (.pointer (some ⟨r,0,none⟩))∧w.heap.size≤r∧RelAt w' r n L∧(∀(w2:World) (k:Nat),k<w.heap.size→w'.grownBy w2 (some k)→RelAt w2 r n L)∧Below w.heap.size w w'
theorem rel_start{w:World}(n:Nat):RelW ((w.alloc (.map #[] 0)).alloc (.cells #[.int .i64 n,.map (some w.heap.size)] 207)) (w.heap.size+1) n w.heap.size 0 w.heap.size [] (fun _=>(0,0)) (fun i j=>(i,j)∈([]:List (Nat × Nat)).take 0):=by
 have e1:(w.alloc (.map #[] 0)).heap.size=w.heap.size+1:=by simp
 refine⟨?_,?_,fun i hi=>absurd hi List.not_mem_nil,fun i hi=>absurd hi List.not_mem_nil,by omega,Nat.le_refl _,fun i hi=>absurd hi List.not_mem_nil⟩
 ·
  have:=arrT_new (w.alloc (.map #[] 0)) [.int .i64 n,.map (some w.heap.size)] 207
  rw [e1] at this;exact this
 ·
  refine TMap.congr (f:=fun _=>none) ?_ (fun x _=>by simp)
  exact(TMap.made w).over (below_new _)
theorem RelW.addF{w w' w'':World}{r n m N base i b g:Nat}{FS:List Nat}{B:Nat→Nat × Nat}{P:Nat→Nat→Prop}(h:RelW w r n m N base FS B P)(hi:i ∉ FS)(hP:∀ j,¬ P i j)(hn:n≤65536)
  (hb:Below w.heap.size w w') (hB:base≤w.heap.size) (hbb:w.heap.size≤b) (hgg:w.heap.size≤g) (hs:SetAt w' b g n (zerosW n))
  (hm:TMap Tryz.prog 3 numV okInt ptrV w'' m (N+1) (updM (relF FS B) (i:Int) (some b))) (hg:w'.grownBy w'' (some m)) :
  RelW w'' r n m (N+1) base (FS++[i]) (fun x=>if x=i then(b,g) else B x) P:=h.add hi hP hn hb hB hbb hgg hs hm hg
attribute [local irreducible] relF
set_option maxHeartbeats 16000000 in
set_option maxRecDepth 100000 in
theorem rchOf_any(n:Nat)(v:Value)(L:List (Nat × Nat))(w:World)(hv:GRow encP 2 w v L)(hL:∀ s∈L,s.1<n∧s.2<n)(hn:n≤65536)(hl:L.length≤1000000) :
  Calls Tryz.prog 77 #[.int .i64 n,v] w (RchRes w n L):=by
 have hmm:=@run_makeMap Tryz.prog
 have emin:min (n:Int) 65536=(n:Int):=by omega
 have emax:max (n:Int) 0=(n:Int):=by omega
 obtain⟨a0,cap,rfl,h1,h2,hc⟩:=hv.at encPr_len
 unfold maxLen at h2
 have HC:=Lib.hid hc
 have HL:=Lib.hid hL
 have HST:=Lib.hid (rel_start (w:=w) n)
 have HB0:=Lib.hid ((below_new (w:=w) (.map #[] 0)).alloc (by simp) (.cells #[.int .i64 n,.map (some w.heap.size)] 207))
 clear hv hc hL
 go_enter Tryz.func77,Tryz.ntmps77
 go_upto_region 3 with(fail)
 clear hmm
 obtain⟨m,hm⟩:∃ m,m=w.heap.size:=⟨_,rfl⟩
 obtain⟨r,hr⟩:∃ r,r=w.heap.size+1:=⟨_,rfl⟩
 rw [← hr,← hm]
 rw [← hr,← hm] at HST
 rw [← hm] at HB0
 generalize hw0:(w.alloc (.map #[] 0)).alloc (.cells #[.int .i64 n,.map (some m)] 207)=w0 at *
 clear hw0 emin emax
 rw [hm] at HB0
 have hrl:w.heap.size≤r:=by omega
 have hml:w.heap.size≤m:=by omega
 clear hr hm
 go_wp2_with fail
 go_loopw [6,22] (fun v6 v22 wr=>OfRel w r n m L v6 v22 wr) (fun _ v22 _=>L.length - (intOf v22).toNat)
 case atStart=>exact⟨0,0,[],fun _=>(0,0),by omega,rfl,by omega,Lib.hid (by rw [List.take_zero];exact HST.out),gown_nil _ _,Lib.hid (fun i=>by simp),List.nodup_nil,by simp,HB0⟩
 case round =>
  obtain⟨k,N,FS,B,hk,rfl,hN,HR,HF,HI,HD,hfk,HB⟩:=hrel
  by_cases hlt:k<L.length
  ·
   obtain⟨b0,off,rfl,sb,hcb⟩:=HC.out.resolve_left (by omega)
   obtain⟨s,hs⟩:=get_of_lt hlt
   have HX:=Lib.hid (hcb k s hs wr HB.out)
   have hsn:=HL.out s (List.mem_of_getElem? hs)
   obtain⟨a,b⟩:=s
   have HS:=Lib.hid hs
   simp only at hsn
   obtain⟨hsn1,hsn2⟩:=hsn
   have d1:decide (a<n)=true:=by simp [hsn1]
   have d2:decide (b<n)=true:=by simp [hsn2]
   have x0:wr.cell? ⟨b0,off+k*2,none⟩=some (.int .i64 a):=(HX.out).2 0 _ rfl
   have x1:wr.cell? ⟨b0,off+k*2+1,none⟩=some (.int .i64 b):=(HX.out).2 1 _ rfl
   have sx:=HX.out.1
   clear hcb hs
   go_upto_region 7 with(fail)
   have HB8a:=Lib.hid (below_new (w:=wr) (.cells #[.int .i64 a,.int .i64 b] 158))
   have HA8:=Lib.hid (show ArrT (wr.alloc (.cells #[.int .i64 a,.int .i64 b] 158)) wr.heap.size 158 [.int .i64 a,.int .i64 b] from arrT_new wr [.int .i64 a,.int .i64 b] 158)
   generalize hw8:wr.alloc (.cells #[.int .i64 a,.int .i64 b] 158)=w8 at *
   clear hw8 x0 x1 sx
   have HR8:=Lib.hid (HR.out.over HB8a.out)
   have HF8:=Lib.hid (HF.out.over HB8a.out)
   have HB8:=Lib.hid (below_over HB.out HB.out.size HB8a.out)
   have HOa:=Lib.hid (ok_int (i:=a) (by omega))
   have p0:=HA8.out.arr.cell (j:=0) rfl
   have p1:=HA8.out.arr.cell (j:=1) rfl
   have sp:=HA8.out.arr.lt
   have r1:=HR8.out.arr.cell (j:=1) rfl
   have sr:=HR8.out.arr.lt
   go_wp2_with fail
   refine(rchFits_any a n _).mono ?_
   rintro e w9 ⟨rfl,hw9⟩
   obtain rfl:=hw9.symm
   rw [d1]
   go_wp2_with fail
   refine(rchFits_any b n _).mono ?_
   rintro e w9 ⟨rfl,hw9⟩
   obtain rfl:=hw9.symm
   rw [d2]
   by_cases ha:a∈FS
   ·
    have HLK:=Lib.hid (relF_yes (B:=B) ha)
    have HI2:=Lib.hid (fs_in HS.out HI.out ha)
    go_wp2_with fail
    have hcur:Below w8.heap.size w8 w8.drew:=(Below.refl _ _).drew
    refine wp_region_lex (C:=IsOver w8) 8 [] (by kernel_rfl) (by kernel_rfl) (isOver_of hcur) ?_
    simp only [List.take_succ_cons,List.take_zero,List.drop_succ_cons,List.drop_zero]
    repeat(first|(refine lex_skip rfl rfl ?_;simp only [Act.put,List.setIfInBounds_toArray,List.set_cons_succ,List.set_cons_zero])|((with_reducible refine lex_tlook keysInt ptrV_inj rfl _ _ _ rfl rfl Tryz.underlying205 none zero_ptr m N (relF FS B) rfl (fun w' hw'=>HR8.out.mapF.over (isOver_below hw')) (a:Int) rfl HOa.out _ HLK.out ?_);simp only [Act.put,List.setIfInBounds_toArray,List.set_cons_succ,List.set_cons_zero])|(refine lex_one rfl ?_;go_big_quiet_step (fail);refine wpQuiet_nil ?_)|(refine lex_loud rfl ?_;go_wp2_with (first|fail);refine⟨isOver_of hcur,?_⟩))
    refine lex_end ?_
    clear hcur p0 p1 sp r1 sr
    have HR9:=Lib.hid (HR8.out.over (Below.refl w8.heap.size w8).drew)
    have HF9:=Lib.hid (HF8.out.over (Below.refl w8.heap.size w8).drew)
    have HB9:=Lib.hid (HB8.out.drew)
    have HA9:=Lib.hid (HA8.out.over (Below.refl w8.heap.size w8).drew)
    generalize hww9:w8.drew=w9 at *
    clear hww9 HR8 HF8 HB8 HA8
    have HLKp:=Lib.hid (relF_yes (B:=B) ha)
    have p0:=HA9.out.arr.cell (j:=0) rfl
    have p1:=HA9.out.arr.cell (j:=1) rfl
    have sp:=HA9.out.arr.lt
    have r1:=HR9.out.arr.cell (j:=1) rfl
    have sr:=HR9.out.arr.lt
    go_wp2_with fail
    have hcur:Below w9.heap.size w9 w9.drew:=(Below.refl _ _).drew
    refine wp_region_lex (C:=IsOver w9) 9 [] (by kernel_rfl) (by kernel_rfl) (isOver_of hcur) ?_
    simp only [List.take_succ_cons,List.take_zero,List.drop_succ_cons,List.drop_zero]
    repeat(first|(refine lex_skip rfl rfl ?_;simp only [Act.put,List.setIfInBounds_toArray,List.set_cons_succ,List.set_cons_zero])|((with_reducible refine lex_tlook keysInt ptrV_inj rfl _ _ _ rfl rfl Tryz.underlying205 none zero_ptr m N (relF FS B) rfl (fun w' hw'=>HR9.out.mapF.over (isOver_below hw')) (a:Int) rfl HOa.out _ HLKp.out ?_);simp only [Act.put,List.setIfInBounds_toArray,List.set_cons_succ,List.set_cons_zero])|(refine lex_one rfl ?_;go_big_quiet_step (fail);refine wpQuiet_nil ?_)|(refine lex_loud rfl ?_;go_wp2_with (first|fail);refine⟨isOver_of hcur,?_⟩))
    refine lex_end ?_
    clear hcur p0 p1 sp r1 sr
    have HRq:=Lib.hid (HR9.out.over (Below.refl w9.heap.size w9).drew)
    have HFq:=Lib.hid (HF9.out.over (Below.refl w9.heap.size w9).drew)
    have HBq:=Lib.hid (HB9.out.drew)
    have HAq:=Lib.hid (HA9.out.over (Below.refl w9.heap.size w9).drew)
    generalize hwwq:w9.drew=wq at *
    clear hwwq HR9 HF9 HB9 HA9
    obtain⟨ws,s1,s2,s3⟩:=HRq.out.sets a ha
    have HS1:=Lib.hid s1
    have HS2:=Lib.hid s2
    have HS3:=Lib.hid s3
    clear s1 s2 s3
    go_wp2_with fail
    refine(mput_any (B a).1 (B a).2 n b ws _ HS1.out HS2.out).mono ?_
    intro e wz hp
    obtain⟨⟨okp,rfl⟩,hrz,hgz⟩:=HRq.out.putTo ha HS.out hsn2 HS3.out hp
    have HRz:=Lib.hid hrz
    have HFz:=Lib.hid (own_kept HFq.out hgz (HS1.out.wordsT.ne HFq.out (by decide)))
    have HBz:=Lib.hid (HBq.out.grown hgz HBq.out.size fun q hq=>by cases hq;exact Nat.le_trans hml (HRz.out.low.2.2 a ha).2)
    clear hp hrz hgz
    go_wp2_with fail
    go_roundw
    case rel=>exact⟨k+1,N,FS,B,hlt,by go_num,by omega,HRz,HFz,HI2,HD,by omega,HBz⟩
    case measure=>simp [intOf];omega
   ·
    have HLK:=Lib.hid (relF_no (B:=B) ha)
    have HI2:=Lib.hid (fs_out HS.out HI.out)
    have HD2:=Lib.hid (nodup_snocN HD.out ha)
    have HP:=Lib.hid (show ∀ j,¬ (a,j)∈L.take k from fun j q=>ha ((HI.out a).2 ⟨j,q⟩))
    go_wp2_with fail
    have hcur:Below w8.heap.size w8 w8.drew:=(Below.refl _ _).drew
    refine wp_region_lex (C:=IsOver w8) 8 [] (by kernel_rfl) (by kernel_rfl) (isOver_of hcur) ?_
    simp only [List.take_succ_cons,List.take_zero,List.drop_succ_cons,List.drop_zero]
    repeat(first|(refine lex_skip rfl rfl ?_;simp only [Act.put,List.setIfInBounds_toArray,List.set_cons_succ,List.set_cons_zero])|((with_reducible refine lex_tlook keysInt ptrV_inj rfl _ _ _ rfl rfl Tryz.underlying205 none zero_ptr m N (relF FS B) rfl (fun w' hw'=>HR8.out.mapF.over (isOver_below hw')) (a:Int) rfl HOa.out _ HLK.out ?_);simp only [Act.put,List.setIfInBounds_toArray,List.set_cons_succ,List.set_cons_zero])|(refine lex_one rfl ?_;go_big_quiet_step (fail);refine wpQuiet_nil ?_)|(refine lex_loud rfl ?_;go_wp2_with (first|fail);refine⟨isOver_of hcur,?_⟩))
    refine lex_end ?_
    clear hcur p0 p1 sp r1 sr
    have HR9:=Lib.hid (HR8.out.over (Below.refl w8.heap.size w8).drew)
    have HF9:=Lib.hid (HF8.out.over (Below.refl w8.heap.size w8).drew)
    have HB9:=Lib.hid (HB8.out.drew)
    have HA9:=Lib.hid (HA8.out.over (Below.refl w8.heap.size w8).drew)
    generalize hww9:w8.drew=w9 at *
    clear hww9 HR8 HF8 HB8 HA8
    have p0:=HA9.out.arr.cell (j:=0) rfl
    have p1:=HA9.out.arr.cell (j:=1) rfl
    have sp:=HA9.out.arr.lt
    have r1:=HR9.out.arr.cell (j:=1) rfl
    have sr:=HR9.out.arr.lt
    go_wp2_with fail
    have hcur:Below w9.heap.size w9 w9.drew:=(Below.refl _ _).drew
    refine wp_region_lex (C:=IsOver w9) 8 [] (by kernel_rfl) (by kernel_rfl) (isOver_of hcur) ?_
    simp only [List.take_succ_cons,List.take_zero,List.drop_succ_cons,List.drop_zero]
    repeat(first|(refine lex_skip rfl rfl ?_;simp only [Act.put,List.setIfInBounds_toArray,List.set_cons_succ,List.set_cons_zero])|(refine lex_one rfl ?_;go_big_quiet_step (fail);refine wpQuiet_nil ?_)|(refine lex_loud rfl ?_;go_wp2_with (first|(go_at_call 129;(with_reducible refine(mnew_any n _ hn).mono ?_);rintro e w' ⟨bN,gN,rfl,hbN,hgN,hsN,hblN⟩;have hbN2:w9.heap.size≤bN:=Nat.le_trans hcur.size hbN;have hgN2:w9.heap.size≤gN:=Nat.le_trans hcur.size hgN;replace hcur:=below_over hcur hcur.size hblN;clear hbN hgN hblN));refine⟨isOver_of hcur,?_⟩))
    refine lex_end ?_
    have HCU:=Lib.hid hcur
    have HSN:=Lib.hid hsN
    clear hcur hsN
    go_upto_region 10 with(refine wpList_tstore keysInt ptrV_inj rfl _ _ _ _ rfl Tryz.underlying205 m N (relF FS B) rfl (HR9.out.mapF.over HCU.out) (by unfold maxLen;omega) (a:Int) rfl HOa.out (some bN) rfl ?_;intro w10 hm10 hg10 hs10)
    clear hs10
    have hmz:=HR9.out.map.lt
    have HR10:=Lib.hid (HR9.out.addF ha HP.out hn HCU.out (by omega) hbN2 hgN2 HSN.out hm10 hg10)
    have HF10:=Lib.hid (own_kept (HF9.out.over HCU.out) hg10 ((HR9.out.map.over HCU.out).ne_own (HF9.out.over HCU.out)))
    have HB10c:=Lib.hid (below_over HB9.out HB9.out.size HCU.out)
    have HB10:=Lib.hid (HB10c.out.grown hg10 HB10c.out.size fun q hq=>by cases hq;exact hml)
    have HX10:=Lib.hid ((below_over (Below.refl w9.heap.size w9) (Nat.le_refl _) HCU.out))
    have HA10:=Lib.hid ((HA9.out.over HCU.out).kept hg10 (fun e=>(HR9.out.map.over HCU.out).ne_blk (HA9.out.over HCU.out).arr (Option.some.inj e).symm))
    have hB10:m≤w10.heap.size:=Nat.le_of_lt HR10.out.map.lt
    have hN10:FS.length+1≤1099511627776:=by omega
    clear p0 p1 sp r1 sr hm10 hg10
    generalize (fun x=>if x=a then(bN,gN) else B x)=B2 at *
    have p0:=HA10.out.arr.cell (j:=0) rfl
    have sp:=HA10.out.arr.lt
    go_wp2_with (at_builtin;(first|refine wpList_append_newD slIntI rfl _ _ rfl m _ _ (drawn_alloc_drewN _ _ _) 1 _ _ _ HF10.out rfl rfl rfl rfl hN10 (by decide) hB10 ?_|refine wpList_append_newD slIntI rfl _ _ rfl m _ _ (drawn_drew _) 1 _ _ _ HF10.out rfl rfl rfl rfl hN10 (by decide) hB10 ?_|refine wpList_append_newD slIntI rfl _ _ rfl m _ _ (drawn_drewN _ _) 1 _ _ _ HF10.out rfl rfl rfl rfl hN10 (by decide) hB10 ?_|refine wpList_append_newD slIntI rfl _ _ rfl m _ _ (drawn_refl _) 1 _ _ _ HF10.out rfl rfl rfl rfl hN10 (by decide) hB10 ?_);intro v11 w11 ho11 hg11)
    have HR11:=Lib.hid (HR10.out.kept HF10.out (by decide) (by decide) (by decide) hg11)
    have HF11:Hid (GOwn encI 1 3 w11 m v11 (FS++[a])):=GOwn.snoc ho11
    have HB11:=Lib.hid (below_grown HB10.out HB10.out.size (HF10.out.base hml) hg11)
    have HA11:=Lib.hid (HA10.out.grown HF10.out (by decide) hg11)
    have hmem:a∈FS++[a]:=List.mem_append_right _ (List.mem_singleton.2 rfl)
    have hlen2:(FS++[a]).length≤k+1:=by simp;omega
    clear p0 sp ho11 hg11
    generalize FS++[a]=FS2 at *
    have HLKp:=Lib.hid (relF_yes (B:=B2) hmem)
    have p0:=HA11.out.arr.cell (j:=0) rfl
    have p1:=HA11.out.arr.cell (j:=1) rfl
    have sp:=HA11.out.arr.lt
    have r1:=HR11.out.arr.cell (j:=1) rfl
    have sr:=HR11.out.arr.lt
    go_wp2_with fail
    have hcur:Below w11.heap.size w11 w11.drew:=(Below.refl _ _).drew
    refine wp_region_lex (C:=IsOver w11) 9 [] (by kernel_rfl) (by kernel_rfl) (isOver_of hcur) ?_
    simp only [List.take_succ_cons,List.take_zero,List.drop_succ_cons,List.drop_zero]
    repeat(first|(refine lex_skip rfl rfl ?_;simp only [Act.put,List.setIfInBounds_toArray,List.set_cons_succ,List.set_cons_zero])|((with_reducible refine lex_tlook keysInt ptrV_inj rfl _ _ _ rfl rfl Tryz.underlying205 none zero_ptr m (N+1) (relF FS2 B2) rfl (fun w' hw'=>HR11.out.mapF.over (isOver_below hw')) (a:Int) rfl HOa.out _ HLKp.out ?_);simp only [Act.put,List.setIfInBounds_toArray,List.set_cons_succ,List.set_cons_zero])|(refine lex_one rfl ?_;go_big_quiet_step (fail);refine wpQuiet_nil ?_)|(refine lex_loud rfl ?_;go_wp2_with (first|fail);refine⟨isOver_of hcur,?_⟩))
    refine lex_end ?_
    clear hcur p0 p1 sp r1 sr
    have HRq:=Lib.hid (HR11.out.over (Below.refl w11.heap.size w11).drew)
    have HFq:=Lib.hid (HF11.out.over (Below.refl w11.heap.size w11).drew)
    have HBq:=Lib.hid (HB11.out.drew)
    have HAq:=Lib.hid (HA11.out.over (Below.refl w11.heap.size w11).drew)
    generalize hwwq:w11.drew=wq at *
    clear hwwq HR11 HF11 HB11 HA11
    obtain⟨ws,s1,s2,s3⟩:=HRq.out.sets a hmem
    have HS1:=Lib.hid s1
    have HS2:=Lib.hid s2
    have HS3:=Lib.hid s3
    clear s1 s2 s3
    go_wp2_with fail
    refine(mput_any (B2 a).1 (B2 a).2 n b ws _ HS1.out HS2.out).mono ?_
    intro e wz hp
    obtain⟨⟨okp,rfl⟩,hrz,hgz⟩:=HRq.out.putTo hmem HS.out hsn2 HS3.out hp
    have HRz:=Lib.hid hrz
    have HFz:=Lib.hid (own_kept HFq.out hgz (HS1.out.wordsT.ne HFq.out (by decide)))
    have HBz:=Lib.hid (HBq.out.grown hgz HBq.out.size fun q hq=>by cases hq;exact Nat.le_trans hml (HRz.out.low.2.2 a hmem).2)
    clear hp hrz hgz
    go_wp2_with fail
    go_roundw
    case rel=>exact⟨k+1,(N+1),FS2,B2,hlt,by go_num,by omega,HRz,HFz,HI2,HD2,hlen2,HBz⟩
    case measure=>simp [intOf];omega
  ·
   obtain rfl:k=L.length:=by omega
   obtain⟨a6,cap6,rfl,g1,g2,_⟩:=HF.out.row.at encI_len
   unfold maxLen at g2
   have HE:=HR.out
   rw [List.take_length] at HE
   have HI2:=HI.out
   rw [List.take_length] at HI2
   have HII:=Lib.hid HI2
   have HR2:Hid (RelW _ r n m N m FS B (PVia L FS 0 0)):=HE.congr (fun i _ j=>pvia_start)
   clear HE HR HI HI2
   go_wp2_with fail
   go_loopw [72] (fun v72 wq=>WhRel w r n m N FS B L (.slice a6 FS.length cap6) v72 wq) (fun v72 _=>FS.length - (intOf v72).toNat)
   case atStart=>exact⟨0,by omega,rfl,HR2,HF,HB⟩
   case round =>
    obtain⟨t,ht,rfl,HRo,HFo,HBo⟩:=hrel
    rename World=>wo
    by_cases htl:t<FS.length
    ·
     obtain⟨kk,hkk⟩:=get_of_lt htl
     obtain⟨a7,c7,e7,_,_,hc7⟩:=HFo.out.row.at encI_len
     cases e7
     obtain⟨b6,off6,rfl,_,_⟩:=hc7.resolve_left (by omega)
     have HKK:=Lib.hid hkk
     have q0:=(own_int HFo.out hkk).2
     have sq:=(own_int HFo.out hkk).1
     clear hkk hc7
     go_wp2_with fail
     clear q0 sq
     go_hide hQ
     go_loopw [78] (fun v78 wi=>WiRel w r n m N t FS B L (.slice (some ⟨b6,off6,none⟩) FS.length cap6) v78 wi) (fun v78 _=>FS.length - (intOf v78).toNat)
     case atStart=>exact⟨0,by omega,rfl,HRo,HFo,HBo⟩
     case round =>
      obtain⟨u,hu,rfl,HRi,HFi,HBi⟩:=hrel
      rename World=>wi
      by_cases hul:u<FS.length
      ·
       obtain⟨i,hi⟩:=get_of_lt hul
       have HI3:=Lib.hid hi
       have him:i∈FS:=List.mem_of_getElem? hi
       have hkm:kk∈FS:=List.mem_of_getElem? HKK.out
       have q0:=(own_int HFi.out hi).2
       have sq:=(own_int HFi.out hi).1
       obtain⟨ws,s1,s2,s3⟩:=HRi.out.sets i him
       obtain⟨wt,t1,t2,t3⟩:=HRi.out.sets kk hkm
       have HS1:=Lib.hid s1
       have HS2:=Lib.hid s2
       have HS3:=Lib.hid s3
       have HT1:=Lib.hid t1
       have HT2:=Lib.hid t2
       have HT3:=Lib.hid t3
       obtain⟨j1,hj1⟩:=(HII.out kk).1 hkm
       obtain⟨j2,hj2⟩:=(HII.out i).1 him
       have hkn:kk<n:=(HL.out _ hj1).1
       have hin:i<n:=(HL.out _ hj2).1
       have HOi:=Lib.hid (ok_int (i:=i) (by omega))
       have HOk:=Lib.hid (ok_int (i:=kk) (by omega))
       have HLKi:=Lib.hid (relF_yes (B:=B) him)
       have HLKk:=Lib.hid (relF_yes (B:=B) hkm)
       have HMI:=Lib.hid (And.intro him hkm)
       have r1:=HRi.out.arr.cell (j:=1) rfl
       have sr:=HRi.out.arr.lt
       clear hi s1 s2 s3 t1 t2 t3 hj1 hj2 him hkm
       cases hb:bitW ws kk with
       | true =>
        have HV:=Lib.hid (has_yes hkn hb)
        have HBt:=Lib.hid hb
        clear hb
        go_wp2_with (refine wpList_tlookV keysInt ptrV_inj rfl _ _ _ rfl Tryz.underlying205 none (zero_ptr _) m N (relF FS B) rfl HRi.out.mapF (i:Int) rfl HOi.out _ HLKi.out ?_)
        refine(mhas_any (B i).1 (B i).2 n kk ws _ HS1.out HS2.out).mono ?_
        rintro e w1 ⟨rfl,hw⟩
        obtain rfl:=hw.symm
        rw [HV.out]
        go_wp2_with fail
        have hcur:Below wi.heap.size wi wi.drew:=(Below.refl _ _).drew
        refine wp_region_lex (C:=IsOver wi) 12 [] (by kernel_rfl) (by kernel_rfl) (isOver_of hcur) ?_
        simp only [List.take_succ_cons,List.take_zero,List.drop_succ_cons,List.drop_zero]
        repeat(first|(refine lex_skip rfl rfl ?_;simp only [Act.put,List.setIfInBounds_toArray,List.set_cons_succ,List.set_cons_zero])|((with_reducible refine lex_tlook keysInt ptrV_inj rfl _ _ _ rfl rfl Tryz.underlying205 none zero_ptr m N (relF FS B) rfl (fun w' hw'=>HRi.out.mapF.over (isOver_below hw')) (i:Int) rfl HOi.out _ HLKi.out ?_);simp only [Act.put,List.setIfInBounds_toArray,List.set_cons_succ,List.set_cons_zero])|((with_reducible refine lex_tlook keysInt ptrV_inj rfl _ _ _ rfl rfl Tryz.underlying205 none zero_ptr m N (relF FS B) rfl (fun w' hw'=>HRi.out.mapF.over (isOver_below hw')) (kk:Int) rfl HOk.out _ HLKk.out ?_);simp only [Act.put,List.setIfInBounds_toArray,List.set_cons_succ,List.set_cons_zero])|(refine lex_one rfl ?_;go_big_quiet_step (fail);refine wpQuiet_nil ?_)|(refine lex_loud rfl ?_;go_wp2_with (first|fail);refine⟨isOver_of hcur,?_⟩))
        refine lex_end ?_
        clear hcur r1 sr
        have HRq:=Lib.hid (HRi.out.over (Below.refl wi.heap.size wi).drew)
        have HFq:=Lib.hid (HFi.out.over (Below.refl wi.heap.size wi).drew)
        have HBq:=Lib.hid (HBi.out.drew)
        have HS1q:=Lib.hid (HS1.out.over (Below.refl wi.heap.size wi).drew)
        have HT1q:=Lib.hid (HT1.out.over (Below.refl wi.heap.size wi).drew)
        clear HS1 HT1
        generalize hwwq:wi.drew=wq at *
        clear hwwq HRi HFi HBi
        go_wp2_with fail
        refine(mor_any (B i).1 (B i).2 (B kk).1 (B kk).2 n ws wt _ HS1q.out HS2.out HT1q.out HT2.out (HRq.out.with' HMI.out.1 HMI.out.2 HS1q.out HT1q.out)).mono ?_
        intro e wz hp
        obtain⟨⟨okp,rfl⟩,hrz,hgz⟩:=HRq.out.orTo HD.out HMI.out.1 HI3.out HKK.out HS2.out HT2.out HS3.out HT3.out HBt.out hp
        have HRz:=Lib.hid hrz
        have HFz:=Lib.hid (own_kept HFq.out hgz (HS1q.out.wordsT.ne HFq.out (by decide)))
        have HBz:=Lib.hid (HBq.out.grown hgz HBq.out.size fun q hq=>by cases hq;exact Nat.le_trans hml (HRz.out.low.2.2 i HMI.out.1).2)
        clear hp hrz hgz
        go_wp2_with fail
        go_roundw
        case rel=>exact⟨u+1,hul,by go_num,HRz,HFz,HBz⟩
        case measure=>simp [intOf];omega
       | false =>
        have HV:=Lib.hid (has_no (n:=n) hb)
        have HRz:=Lib.hid (HRi.out.orNo HD.out HI3.out HKK.out HS3.out hb)
        clear hb
        go_wp2_with (refine wpList_tlookV keysInt ptrV_inj rfl _ _ _ rfl Tryz.underlying205 none (zero_ptr _) m N (relF FS B) rfl HRi.out.mapF (i:Int) rfl HOi.out _ HLKi.out ?_)
        refine(mhas_any (B i).1 (B i).2 n kk ws _ HS1.out HS2.out).mono ?_
        rintro e w1 ⟨rfl,hw⟩
        obtain rfl:=hw.symm
        rw [HV.out]
        go_wp2_with fail
        go_roundw
        case rel=>exact⟨u+1,hul,by go_num,HRz,HFi,HBi⟩
        case measure=>simp [intOf];omega
      ·
       obtain rfl:u=FS.length:=by omega
       have HRz:Hid (RelW wi r n m N m FS B (PVia L FS (t+1) 0)):=HRi.out.congr (fun i hi j=>pvia_row hi)
       go_wp2_with fail
       subst hQ
       go_wp2_with fail
       go_roundw
       case rel=>exact⟨t+1,htl,by go_num,HRz,HFi,HBi⟩
       case measure=>simp [intOf];omega
    ·
     obtain rfl:t=FS.length:=by omega
     have HRz:Hid (RelW wo r n m N m FS B (Lead L)):=HRo.out.congr (fun i hi j=>pvia_end (fun s hs=>(HII.out s.1).2 ⟨s.2,hs⟩))
     go_wp2_with fail
     go_ret
     exact⟨r,rfl,hrl,⟨hn,HL.out,m,N,m,FS,B,HRz.out,HII.out⟩,fun w2 k hk hg=>⟨hn,HL.out,m,N,m,FS,B,HRz.out.keptLow hg (by omega),HII.out⟩,HBo.out⟩
end Go.Proofs.YtanfebljiblhbaaGreatDoor
namespace Go.Proofs.YtanfebljiblhbaaGreatDoor
open Go Go.RowKit

theorem slzSet:SlZ Tryz.prog 212 209 (.pointer none) 8:=slZ_of Tryz.underlying212 (by kernel_rfl) rfl
theorem ArrT.ne_type{w:World}{g g':Nat}{e e':TypeId}{cs cs':List Value}(h:ArrT w g e cs)(h':ArrT w g' e' cs')(hn:e≠e'):g≠g':=by
 rintro rfl
 unfold ArrT at *
 rw [h] at h'
 simp only [Option.some.injEq,Obj.cells.injEq] at h'
 exact hn h'.2.1
abbrev ptrB(b:Nat):Value:=.pointer (some ⟨b,0,none⟩)
def ahV(B:Nat→Nat × Nat)(i n:Nat):List Value:=(List.range n).map fun k=>if k<i then ptrB (B k).1 else .pointer none
theorem ahV_len(B:Nat→Nat × Nat)(i n:Nat):(ahV B i n).length=n:=by unfold ahV;simp
theorem ahV_get{B:Nat→Nat × Nat}{i n k:Nat}(h:k<n):(ahV B i n)[k]? = some (if k<i then ptrB (B k).1 else .pointer none):=by unfold ahV;simp [h]
theorem ahV_zero(B:Nat→Nat × Nat)(n:Nat):ahV B 0 n=List.replicate n (.pointer none):=by
 unfold ahV;simp [List.map_const']
theorem ahV_set{B B':Nat→Nat × Nat}{i n:Nat}(hB:∀ k,k<i→B' k=B k):(ahV B i n).set i (ptrB (B' i).1)=ahV B' (i+1) n:=by
 refine List.ext_getElem? fun k => ?_
 rw [List.getElem?_set]
 by_cases hk:k<n
 ·
  rw [ahV_get hk,ahV_get hk,ahV_len]
  rcases Nat.lt_trichotomy k i with h|h|h
  ·
   rw [if_neg (by omega),if_pos h,if_pos (by omega),hB k h]
  ·
   subst h;simp [hk]
  ·
   rw [if_neg (by omega),if_neg (by omega),if_neg (by omega)]
 ·
  have h1:(ahV B i n)[k]? = none:=List.getElem?_eq_none (by rw [ahV_len];omega)
  have h2:(ahV B' (i+1) n)[k]? = none:=List.getElem?_eq_none (by rw [ahV_len];omega)
  rw [h1,h2,ahV_len]
  split
  ·
   split
   ·
    omega
   ·
    rfl
  ·
   rfl
/-- the sets of the first i things: all that is ahead of each -/
structure AhTo (w:World) (go n i:Nat) (R:List (Nat × Nat)) (B:Nat→Nat × Nat):Prop where
 arr:ArrT w go 209 (ahV B i n)
 sets:∀ k,k<i→∃ ws,SetAt w (B k).1 (B k).2 n ws∧SetOk n ws∧∀ j,bitW ws j=true↔j<n∧BeforeP R j k
structure AhMid (w:World) (go n i:Nat) (R:List (Nat × Nat)) (B:Nat→Nat × Nat) (j:Nat) (ws:List Nat):Prop where
 arr:ArrT w go 209 (ahV B (i+1) n)
 sets:∀ k,k<i→∃ ws,SetAt w (B k).1 (B k).2 n ws∧SetOk n ws∧∀ j,bitW ws j=true↔j<n∧BeforeP R j k
 cur:SetAt w (B i).1 (B i).2 n ws
 ok:SetOk n ws
 bits:∀ q,bitW ws q=true↔q<j∧BeforeP R q i
 apart:∀ k,k<i→(B k).2≠(B i).2
theorem AhTo.over{w w':World}{go n i:Nat}{R:List (Nat × Nat)}{B:Nat→Nat × Nat}(h:AhTo w go n i R B)(hb:Below w.heap.size w w'):AhTo w' go n i R B:=
 ⟨h.arr.over hb,fun k hk=>by obtain⟨ws,h1,h2⟩:=h.sets k hk;exact⟨ws,h1.over hb,h2⟩⟩
theorem AhTo.begin'{w w1:World}{go n i b g:Nat}{R:List (Nat × Nat)}{B:Nat→Nat × Nat}(h:AhTo w go n i R B)(hb:Below w.heap.size w w1)(hs:SetAt w1 b g n (zerosW n))(hg:w.heap.size≤g)(hn:n≤65536) :
  AhMid (w1.setCell ⟨go,i,none⟩ (ptrB b)) go n i R (fun k=>if k=i then(b,g) else B k) 0 (zerosW n):=by
 have h1:=h.over hb
 have old:∀ k,k<i→(if k=i then(b,g) else B k)=B k:=fun k hk=>if_neg (by omega)
 refine⟨?_,fun k hk => ?_,?_,zerosW_ok hn,fun q => ?_,fun k hk => ?_⟩
 ·
  have:=h1.arr.set i (ptrB b)
  have e2:=ahV_set (B:=B) (B':=fun k=>if k=i then(b,g) else B k) (i:=i) (n:=n) old
  rw [if_pos rfl] at e2
  rw [← e2];exact this
 ·
  obtain⟨ws,s1,s2⟩:=h1.sets k hk
  simp only [old k hk]
  exact⟨ws,s1.apart (s1.headT.ne_type h1.arr (by decide)) (s1.wordsT.ne_type h1.arr (by decide)) _,s2⟩
 ·
  simp only [if_true]
  exact hs.apart (hs.headT.ne_type h1.arr (by decide)) (hs.wordsT.ne_type h1.arr (by decide)) _
 ·
  rw [zerosW_bit]
  exact⟨fun q=>(by cases q),fun q=>absurd q.1 (Nat.not_lt_zero _)⟩
 ·
  obtain⟨ws,s1,_⟩:=h.sets k hk
  have:=s1.words.lt
  simp only [old k hk,if_true]
  omega
theorem AhMid.put{w w':World}{go n i j:Nat}{R:List (Nat × Nat)}{B:Nat→Nat × Nat}{ws:List Nat}{e:Ending}(h:AhMid w go n i R B j ws)(hj:j<n)(hb:BeforeP R j i)(hp:PutRes (B i).1 (B i).2 n j ws w e w') :
  (∃ ok:Bool,e=.returned (.bool ok))∧(∃ ws',AhMid w' go n i R B (j+1) ws')∧w.grownBy w' (some (B i).2):=by
 obtain⟨ok,ws',rfl,h1,h2,h3,h4,_⟩:=hp
 refine⟨⟨ok,rfl⟩,⟨ws',h.arr.kept h4 (fun q=>(h.cur.wordsT.ne_type h.arr (by decide)) (Option.some.inj q).symm),fun k hk => ?_,h1,h2,fun q => ?_,h.apart⟩,h4⟩
 ·
  obtain⟨wk,s1,s2⟩:=h.sets k hk
  exact⟨wk,s1.grown h4 (fun q=>s1.head_words h.cur (Option.some.inj q)) (fun q=>h.apart k hk (Option.some.inj q)),s2⟩
 ·
  rw [h3,Bool.or_eq_true,h.bits]
  simp only [Bool.and_eq_true,decide_eq_true_iff]
  constructor
  ·
   rintro(⟨q1,q2⟩|⟨rfl,_⟩)
   ·
    exact⟨by omega,q2⟩
   ·
    exact⟨by omega,hb⟩
  ·
   rintro⟨q1,q2⟩
   rcases Nat.lt_or_ge q j with hl|hl
   ·
    exact .inl ⟨hl,q2⟩
   ·
    exact .inr ⟨by omega,hj⟩
theorem AhMid.skip{w:World}{go n i j:Nat}{R:List (Nat × Nat)}{B:Nat→Nat × Nat}{ws:List Nat}(h:AhMid w go n i R B j ws)(hb:¬ BeforeP R j i):AhMid w go n i R B (j+1) ws:=
 ⟨h.arr,h.sets,h.cur,h.ok,fun q=>by
  rw [h.bits]
  constructor
  ·
   rintro⟨q1,q2⟩;exact⟨by omega,q2⟩
  ·
   rintro⟨q1,q2⟩
   refine⟨?_,q2⟩
   rcases Nat.lt_or_ge q j with hl|hl
   ·
    exact hl
   ·
    obtain rfl:q=j:=by omega
    exact absurd q2 hb,h.apart⟩
theorem AhMid.done{w:World}{go n i:Nat}{R:List (Nat × Nat)}{B:Nat→Nat × Nat}{ws:List Nat}(h:AhMid w go n i R B n ws):AhTo w go n (i+1) R B:=
 ⟨h.arr,fun k hk=>by
  rcases Nat.lt_or_ge k i with hl|hl
  ·
   exact h.sets k hl
  ·
   obtain rfl:k=i:=by omega
   exact⟨ws,h.cur,h.ok,h.bits⟩⟩
def AhRes(w:World)(n:Nat)(R:List (Nat × Nat))(e:Ending)(w':World):Prop:=∃ go B,e=.returned (.slice (some ⟨go,0,none⟩) n n)∧w.heap.size≤go∧AhTo w' go n n R B∧Below w.heap.size w w'
def AoRel(w:World)(go n:Nat)(R:List (Nat × Nat))(v11:Value)(wr:World):Prop:=∃(i:Nat) (B:Nat→Nat × Nat),i≤n∧v11=.int .i64 i∧Hid (AhTo wr go n i R B)∧Hid (Below w.heap.size w wr)
def AiRel(w:World)(go n i:Nat)(R:List (Nat × Nat))(B:Nat→Nat × Nat)(v22:Value)(wr:World):Prop:=∃(j:Nat) (ws:List Nat),j≤n∧v22=.int .i64 j∧Hid (AhMid wr go n i R B j ws)∧Hid (Below w.heap.size w wr)
attribute [local irreducible] ahV befB
set_option maxHeartbeats 8000000 in
set_option maxRecDepth 100000 in
theorem ahead_any(r n:Nat)(R:List (Nat × Nat))(w:World)(h:RelAt w r n R):Calls Tryz.prog 133 #[.pointer (some ⟨r,0,none⟩)] w (AhRes w n R):=by
 have hn:=h.1
 have HH:=Lib.hid h
 have HZ:=Lib.hid (ahV_zero (fun _=>(0,0)) n)
 have hq:8*n≤281474976710656:=by omega
 have hm:n≤maxLen:=by unfold maxLen;omega
 clear h
 go_enter Tryz.func133,Tryz.ntmps133
 go_wp2_with fail
 refine(rchLen_any r n R _ HH.out).mono ?_
 rintro e w1 ⟨rfl,hw⟩
 obtain rfl:=hw.symm
 go_upto_region 2 with(at_make;refine wpList_make_zeros slzSet rfl _ _ rfl w.heap.size n _ rfl rfl rfl hq hm (Nat.le_refl _) ?_;intro w1 ho1 hg1)
 have HB1:=Lib.hid (grown_over' hg1 (fun g hg=>by cases hg))
 obtain⟨hA,hg⟩:=own_full ho1
 have HT0:=Lib.hid (AhTo.mk (R:=R) (B:=fun _=>(0,0)) (i:=0) (n:=n) (by rw [HZ.out];exact hA) (fun k hk=>absurd hk (Nat.not_lt_zero k)))
 have hgo:w.heap.size<w1.heap.size:=hA.arr.lt
 obtain⟨go,hgo1,hgo2⟩:∃ go,w.heap.size=go∧w.heap.size≤go:=⟨_,rfl,Nat.le_refl _⟩
 rw [hgo1] at HT0 hgo ⊢
 clear hA hg ho1 hg1 hgo1 HZ
 go_wp2_with fail
 go_loopw [11] (fun v11 wr=>AoRel w go n R v11 wr) (fun v11 _=>n - (intOf v11).toNat)
 case atStart=>exact⟨0,_,by omega,rfl,HT0,HB1⟩
 case round =>
  obtain⟨i,B,hi,rfl,HT,HB⟩:=hrel
  rename World=>wo
  have HRo:=Lib.hid (HH.out.over HB.out)
  have HOn:=Lib.hid (ahV_len B i n)
  have sg:=HT.out.arr.arr.lt
  by_cases hlt:i<n
  ·
   have f0:=HT.out.arr.arr.free i
   have c0:=HT.out.arr.arr.cell (ahV_get hlt)
   go_wp2_with fail
   refine(rchLen_any r n R _ HRo.out).mono ?_
   rintro e w2 ⟨rfl,hw⟩
   obtain rfl:=hw.symm
   go_wp2_with fail
   refine(mnew_any n _ hn).mono ?_
   rintro e w3 ⟨b,g,rfl,hb1,hg1,hs,hb⟩
   have hg1x:=hg1
   have HM:=Lib.hid (HT.out.begin' hb hs hg1 hn)
   have HB3:=Lib.hid (below_over HB.out HB.out.size hb)
   have HA3:=Lib.hid (HT.out.arr.over hb)
   clear hs hb hb1 hg1 f0 c0 sg
   have f0:=HA3.out.arr.free i
   have c0:=HA3.out.arr.cell (ahV_get hlt)
   have sg:=HA3.out.arr.lt
   go_upto_region 6 with(fail)
   have HB4:=Lib.hid (HB3.out.setCell (p:=⟨go,i,none⟩) hgo2 (ptrB b))
   generalize hw4:w3.setCell ⟨go,i,none⟩ (ptrB b)=w4 at *
   clear hw4 f0 c0 sg
   obtain⟨B2,hB2⟩:∃ B2,B2=(fun k=>if k=i then(b,g) else B k):=⟨_,rfl⟩
   rw [← hB2] at HM
   have HLow:Hid (w.heap.size≤(B2 i).2):=by show _≤_;rw [hB2];simp only [if_true];exact Nat.le_trans HB.out.size hg1x
   clear hB2
   go_wp2_with fail
   go_hide hQ
   go_loopw [22] (fun v22 wi=>AiRel w go n i R B2 v22 wi) (fun v22 _=>n - (intOf v22).toNat)
   case atStart=>exact⟨0,_,by omega,rfl,HM,HB4⟩
   case round =>
    obtain⟨j,ws,hj,rfl,HM2,HB5⟩:=hrel
    rename World=>wr
    have HRr:=Lib.hid (HH.out.over HB5.out)
    by_cases hjl:j<n
    ·
     cases hbf:befB R j i with
     | true =>
      have HV:=Lib.hid hbf
      have HBP:=Lib.hid (befB_iff.1 hbf)
      clear hbf
      have c0:=HM2.out.arr.arr.cell (ahV_get hlt)
      rw [if_pos (by omega)] at c0
      have sg:=HM2.out.arr.arr.lt
      go_wp2_with fail
      refine(rchBefore_any r n j i R _ HRr.out (by omega) (by omega)).mono ?_
      rintro e w5 ⟨rfl,hw⟩
      obtain rfl:=hw.symm
      rw [HV.out]
      go_wp2_with fail
      refine(mput_any (B2 i).1 (B2 i).2 n j ws _ HM2.out.cur HM2.out.ok).mono ?_
      intro e w6 hp
      obtain⟨⟨okp,rfl⟩,⟨ws',hm6⟩,hg6⟩:=HM2.out.put hjl HBP.out hp
      have HM6:=Lib.hid hm6
      have HB6:=Lib.hid (HB5.out.grown hg6 HB5.out.size fun q hq=>by cases hq;exact HLow.out)
      clear hp hm6 hg6
      go_wp2_with fail
      go_roundw
      case rel=>exact⟨j+1,ws',hjl,by go_num,HM6,HB6⟩
      case measure=>simp [intOf];omega
     | false =>
      have HV:=Lib.hid hbf
      have HM6:=Lib.hid (HM2.out.skip (fun q=>by rw [befB_iff.2 q] at hbf;cases hbf))
      clear hbf
      go_wp2_with fail
      refine(rchBefore_any r n j i R _ HRr.out (by omega) (by omega)).mono ?_
      rintro e w5 ⟨rfl,hw⟩
      obtain rfl:=hw.symm
      rw [HV.out]
      go_wp2_with fail
      go_roundw
      case rel=>exact⟨j+1,ws,hjl,by go_num,HM6,HB5⟩
      case measure=>simp [intOf];omega
    ·
     obtain rfl:j=n:=by omega
     have HD:=Lib.hid HM2.out.done
     go_wp2_with fail
     subst hQ
     go_wp2_with fail
     go_roundw
     case rel=>exact⟨i+1,B2,hlt,by go_num,HD,HB5⟩
     case measure=>simp [intOf];omega
  ·
   obtain rfl:i=n:=by omega
   go_wp2_with fail
   go_ret
   exact⟨go,B,rfl,hgo2,HT.out,HB.out⟩
end Go.Proofs.YtanfebljiblhbaaGreatDoor
namespace Go.Proofs.YtanfebljiblhbaaGreatDoor
open Go Go.RowKit

theorem irow_at{w:World}{v:Value}{xs:List Nat}(h:GRow encI 1 w v xs):∃ a cap,v=.slice a xs.length cap∧xs.length≤cap∧cap≤maxLen∧(xs.length=0∨∃ b off,a=some ⟨b,off,none⟩∧b<w.heap.size ∧
  ∀(i x:Nat),xs[i]? = some x→∀ W,Below w.heap.size w W→b<W.heap.size∧W.cell? ⟨b,off+i,none⟩=some (.int .i64 x)):=by
 obtain⟨a,cap,h1,h2,h3,h4⟩:=h.at encI_len
 refine⟨a,cap,h1,h2,h3,h4.imp id ?_⟩
 rintro⟨b,off,e,hb,hc⟩
 refine⟨b,off,e,hb,fun i x hx W hW => ?_⟩
 obtain⟨q1,q2⟩:=hc i x hx W hW
 have:=q2 0 _ rfl
 rw [Nat.mul_one,Nat.add_zero] at this
 exact⟨q1,this⟩
theorem prow_at{w:World}{v:Value}{xs:List (Nat × Nat)}(h:GRow encP 2 w v xs):∃ a cap,v=.slice a xs.length cap∧xs.length≤cap∧cap≤maxLen∧(xs.length=0∨∃ b off,a=some ⟨b,off,none⟩∧b<w.heap.size ∧
  ∀ i x,xs[i]? = some x→∀ W,Below w.heap.size w W→b<W.heap.size∧W.cell? ⟨b,off+i*2,none⟩=some (.int .i64 x.1)∧W.cell? ⟨b,off+i*2+1,none⟩=some (.int .i64 x.2)):=by
 obtain⟨a,cap,h1,h2,h3,h4⟩:=h.at encPr_len
 refine⟨a,cap,h1,h2,h3,h4.imp id ?_⟩
 rintro⟨b,off,e,hb,hc⟩
 refine⟨b,off,e,hb,fun i x hx W hW => ?_⟩
 obtain⟨q1,q2⟩:=hc i x hx W hW
 exact⟨q1,q2 0 _ rfl,q2 1 _ rfl⟩
def memB(l:List Nat)(i:Nat):Bool:=decide (i∈l)
theorem memB_iff{l:List Nat}{i:Nat}:memB l i=true↔i∈l:=by unfold memB;simp
theorem memB_no{l:List Nat}{i:Nat}:memB l i=false↔i ∉ l:=by unfold memB;simp
structure RRel (w:World) (n:Nat) (v:Value) (R:List (Nat × Nat)):Prop where
 row:GRow encP 2 w v R
 room:n≤65536
 lt:∀ s∈R,s.1<n∧s.2<n
 few:R.length≤1000000
theorem RRel.over{w w':World}{n:Nat}{v:Value}{R:List (Nat × Nat)}(h:RRel w n v R)(hb:Below w.heap.size w w'):RRel w' n v R:=⟨h.row.over hb,h.room,h.lt,h.few⟩
attribute [local irreducible] memB
/-! ### what steps lead to -/
end Go.Proofs.YtanfebljiblhbaaGreatDoor
namespace Go.Proofs.YtanfebljiblhbaaGreatDoor
open Go Go.RowKit

attribute [local irreducible] memB leadB befB
theorem gown_low{α:Type}{enc:α→List Value}{sz:Nat}{e:TypeId}{w:World}{B:Nat}{v:Value}{xs:List α}(h:GOwn enc sz e w B v xs){k:Nat}(hk:v.ownBlock=some k):B≤k:=by
 rcases h.2 with⟨rfl,_⟩|⟨g,cap,cur,rfl,hB,_⟩
 ·
  simp [Value.ownBlock] at hk
 ·
  simp [Value.ownBlock] at hk;omega
end Go.Proofs.YtanfebljiblhbaaGreatDoor
namespace Go.Proofs.YtanfebljiblhbaaGreatDoor
open Go Go.RowKit

open Classical in
noncomputable def freeB(R:List (Nat × Nat))(n:Nat)(l:List Nat)(i:Nat):Bool:=decide (∀ j,j<n→BeforeP R j i→j∈l)
theorem freeB_iff{R:List (Nat × Nat)}{n i:Nat}{l:List Nat}:freeB R n l i=true↔∀ j,j<n→BeforeP R j i→j∈l:=by unfold freeB;simp
/-- the value of a list's length -/
def slLen:Value→Nat
 | .slice _ n _=>n
 | _=>0
noncomputable def takeTo(R:List (Nat × Nat))(g k:Nat):List Nat:=takeG R k g
theorem takeTo_zero(R:List (Nat × Nat))(g:Nat):takeTo R g 0=[]:=rfl
theorem takeTo_yes{R:List (Nat × Nat)}{g k:Nat}(h:groupM R k=g):takeTo R g (k+1)=takeTo R g k++[k]:=by
 unfold takeTo takeG;rw [List.range_succ,List.filter_append];simp [h]
theorem takeTo_no{R:List (Nat × Nat)}{g k:Nat}(h:¬ groupM R k=g):takeTo R g (k+1)=takeTo R g k:=by
 unfold takeTo takeG;rw [List.range_succ,List.filter_append];simp [h]
theorem takeTo_len(R:List (Nat × Nat))(g k:Nat):(takeTo R g k).length≤k:=by
 unfold takeTo takeG;exact Nat.le_trans (List.length_filter_le _ _) (by simp)
theorem find_range{p:Nat→Bool}{n g:Nat}(h:(List.range n).find? p=some g):p g=true∧∀ g',g'<g→p g'=false:=by
 obtain⟨h1,l1,l2,hab,hno⟩:=List.find?_eq_some_iff_append.1 h
 refine⟨h1,fun g' hg' => ?_⟩
 have hpw:(List.range n).Pairwise (· < ·):=List.pairwise_lt_range
 have hgm:g∈List.range n:=List.mem_of_find?_eq_some h
 have hmem:g'∈List.range n:=List.mem_range.2 (by have:=List.mem_range.1 hgm;omega)
 rw [hab] at hmem hpw
 rcases List.mem_append.1 hmem with hm|hm
 ·
  have:=hno g' hm;simpa using this
 ·
  rcases List.mem_cons.1 hm with e|hm
  ·
   omega
  ·
   have:=(List.pairwise_cons.1 (List.pairwise_append.1 hpw).2.1).1 g' hm
   omega
theorem pick_is{R:List (Nat × Nat)}{n g:Nat}{l:List Nat}(hg:MayTake R n l g)(hno:∀ g',g'<g→¬ MayTake R n l g'):stepO R n l=l++takeTo R g n:=by
 cases hp:pickM R n l with
 | none =>
  unfold pickM at hp
  have:=(List.find?_eq_none.1 hp) g (List.mem_range.2 hg.1)
  simp only [decide_eq_true_iff] at this
  exact absurd hg this
 | some g2 =>
  have e:g2=g:=by
   have h2:=pick_some hp
   unfold pickM at hp
   obtain⟨_,h1⟩:=find_range hp
   rcases Nat.lt_trichotomy g2 g with h|h|h
   ·
    exact absurd h2 (hno g2 h)
   ·
    exact h
   ·
    have:=h1 g h
    simp only [decide_eq_false_iff_not] at this
    exact absurd hg this
  unfold stepO takeTo
  rw [hp,e]
theorem pick_lt{R:List (Nat × Nat)}{n c:Nat}(hl:(orderTo R n c).length<n)(hno:∀ g',g'<n→¬ MayTake R n (orderTo R n c) g'):False:=by
 obtain⟨g,hg,_⟩:=step_grows (orderTo_whole R n c) hl
 have:=pick_some hg
 exact hno g this.1 this
theorem may_of{R:List (Nat × Nat)}{n g:Nat}{l:List Nat}(hg:g<n)(h1:groupM R g=g)(h2:memB l g=false)(h3:freeB R n l g=true):MayTake R n l g:=⟨hg,h1,memB_no.1 h2,freeB_iff.1 h3⟩
theorem not_may{R:List (Nat × Nat)}{n g:Nat}{l:List Nat}(hno:∀ g',g'<g→¬ MayTake R n l g')(h:¬ groupM R g=g∨memB l g=true∨freeB R n l g=false):∀ g',g'<g+1→¬ MayTake R n l g':=fun g' hg'=>by
 rcases Nat.lt_or_ge g' g with hl|hl
 ·
  exact hno g' hl
 ·
  obtain rfl:g'=g:=by omega
  rintro⟨_,q1,q2,q3⟩
  rcases h with h|h|h
  ·
   exact h q1
  ·
   exact q2 (memB_iff.1 h)
  ·
   rw [freeB_iff.2 q3] at h;cases h
attribute [local irreducible] memB leadB befB freeB takeTo
/-! ### the order -/
theorem own_form{w:World}{B:Nat}{e:TypeId}{v:Value}{xs:List Nat}(h:GOwn encI 1 e w B v xs):∃ p c,v=.slice p xs.length c:=by
 obtain⟨a,cap,e1,_⟩:=irow_at h.row
 exact⟨a,cap,e1⟩
theorem ord_len(R:List (Nat × Nat))(n c:Nat):(orderTo R n c).length≤n:=whole_len (orderTo_whole R n c)
end Go.Proofs.YtanfebljiblhbaaGreatDoor
namespace Go.Proofs.YtanfebljiblhbaaGreatDoor
open Go Go.RowKit

section
variable {P : Program} {t e : TypeId} {size bytes : Nat} {w : World} {ops : Array Oper} {o : Oper} {rest : List Oper} {a : Act} {Q : Exit → Act → World → Prop}
/-- an append of new elements: where the row lies then -/
theorem wpList_append_newK(T:SlT P t e size bytes)(hgd:o.guard=none)(s x:Operand)
  (ho:o.op=.call {callee:=.builtin .append,args:=#[s,x],argTypes:=#[t,t]})
  (base:Nat) (cs:Array Value) (e2:TypeId) {wx:World} (hd:Drawn (w.alloc (.cells cs e2)) wx) (m:Nat) (v:Value) (n:Nat) (xs:List Value) (hown:w.ownsRow base e size v n xs) (hs:a.eval s=v)
  (hx:a.eval x=.slice (some ⟨w.heap.size,0,none⟩) m m) (hcs:cs.size=m*size) (h1:cs.toList.all (fun u=>u.oneCell')=true)
  (hN:n+m≤1099511627776) (hby:bytes≤128) (hbase:base≤w.heap.size)
  (h:∀ v' w',w'.ownsRow base e size v' (n+m) (xs++cs.toList)→w.grownBy w' v.ownBlock→(v'.ownBlock=v.ownBlock∨∃ k,v'.ownBlock=some k∧w.heap.size≤k)→wpList P ops Q rest (a.put o.dst v') w'):wpList P ops Q (o :: rest) a wx:=by
 have hsz:wx.heap.size=w.heap.size+1:=by obtain⟨n,rfl⟩:=hd;simp
 have hmm:m≤maxLen:=by unfold maxLen;omega
 obtain⟨i,z,ht,_⟩:=T.out
 refine wpList_append_rowAt T ht hgd s x ho base v n xs (hd.owns (hown.alloc _)) hs _ m cs.toList (hd.row (own_row (World.ownsRow_lit w cs m (Nat.zero_le _) hmm hcs))) hx ?_ hN hby (by omega) fun v' w' h2 h3 h4=>h v' w' h2 (grown_alloc (o:=.cells cs e2) ?_) (h4.imp id fun q=>⟨_,q,by omega⟩)
 ·
  intro u hu
  exact List.all_eq_true.1 h1 u hu
 ·
  obtain⟨n,rfl⟩:=hd
  exact⟨h3.os,h3.tape,h3.output,h3.size,h3.block⟩
end

theorem own_more{w:World}{B i:Nat}{e:TypeId}{v:Value}{xs:List Nat}(h:GOwn encI 1 e w B v (xs++[i])):∃(ys:List Nat) (p:Option Addr) (c:Nat),v=.slice p ys.length c∧ys=xs++[i]:=by
 obtain⟨p,c,e⟩:=own_form h
 exact⟨xs++[i],p,c,e,rfl⟩
/-! ### groups: a row of rows -/
structure GrpsAt (w:World) (gb n base:Nat) (F:Nat→List Nat) (vs:List Value):Prop where
 arr:ArrT w gb 89 vs
 len:vs.length=n
 own:∀(g:Nat) (v:Value),vs[g]? = some v→GOwn encI 1 3 w base v (F g)
 apart:∀(g g':Nat) (v v':Value),vs[g]? = some v→vs[g']? = some v'→g≠g'→v.ownBlock=none∨v.ownBlock≠v'.ownBlock
theorem gown_size{α:Type}{enc:α→List Value}{sz:Nat}{e:TypeId}{w:World}{B:Nat}{v:Value}{xs:List α}(h:GOwn enc sz e w B v xs){k:Nat}(hk:v.ownBlock=some k):k<w.heap.size:=by
 rcases h.2 with⟨rfl,_⟩|⟨g,cap,cur,rfl,_,hg,_⟩
 ·
  cases hk
 ·
  cases hk;exact(Array.getElem?_eq_some_iff.1 hg).1
theorem GrpsAt.over{w w':World}{gb n base:Nat}{F:Nat→List Nat}{vs:List Value}(h:GrpsAt w gb n base F vs)(hb:Below w.heap.size w w'):GrpsAt w' gb n base F vs:=
 ⟨h.arr.over hb,h.len,fun g v hv=>(h.own g v hv).over hb,h.apart⟩
theorem GrpsAt.push{w w9:World}{gb n base g i:Nat}{F:Nat→List Nat}{vs:List Value}{v v9:Value}(h:GrpsAt w gb n base F vs)(hv:vs[g]? = some v)(ho:GOwn encI 1 3 w9 base v9 (F g++[i]))(hg:w.grownBy w9 v.ownBlock)
  (hb:v9.ownBlock=v.ownBlock∨∃ k,v9.ownBlock=some k∧w.heap.size≤k) {F':Nat→List Nat} (h1:F' g=F g++[i]) (h2:∀ k,k≠g→F' k=F k):GrpsAt (w9.setCell ⟨gb,g,none⟩ v9) gb n base F' (vs.set g v9):=by
 have hov:=h.own g v hv
 have hA9:=h.arr.kept hg (h.arr.ne hov (by decide))
 have oth:∀ k u,vs[k]? = some u→k≠g→GOwn encI 1 3 w9 base u (F k):=fun k u hu hne=>own_grown (h.own k u hu) hg (h.apart k g u v hu hv hne)
 have ne9:∀ k u,vs[k]? = some u→k≠g→u.ownBlock=none∨u.ownBlock≠v9.ownBlock:=fun k u hu hne=>by
  rcases h.apart k g u v hu hv hne with q|q
  ·
   exact .inl q
  ·
   rcases hb with hb|⟨b,hb,hle⟩
   ·
    rw [hb];exact .inr q
   ·
    cases hq:u.ownBlock with
    | none=>exact .inl rfl
    | some k2 =>
     have:=gown_size (h.own k u hu) hq
     rw [hb];exact .inr (fun e=>by have:=Option.some.inj e;omega)
 have hgl:=(List.getElem?_eq_some_iff.1 hv).1
 have get:∀ k u,(vs.set g v9)[k]? = some u→(k=g∧u=v9)∨(k≠g∧vs[k]? = some u):=fun k u hu=>by
  by_cases e:g=k
  ·
   subst e
   rw [List.getElem?_set_self hgl] at hu
   exact .inl ⟨rfl,(Option.some.inj hu).symm⟩
  ·
   rw [List.getElem?_set_ne e] at hu
   exact .inr ⟨fun q=>e q.symm,hu⟩
 refine⟨hA9.set g v9,by rw [List.length_set];exact h.len,fun k u hu => ?_,fun k k' u u' hu hu' hne => ?_⟩
 ·
  rcases get k u hu with⟨rfl,rfl⟩|⟨hk,hu⟩
  ·
   rw [h1];exact own_kept ho (grown_setCell _ _ _) (hA9.ne ho (by decide))
  ·
   rw [h2 k hk];exact own_kept (oth k u hu hk) (grown_setCell _ _ _) (hA9.ne (oth k u hu hk) (by decide))
 ·
  rcases get k u hu with⟨e1,e2⟩|⟨hk,hu⟩ <;> rcases get k' u' hu' with⟨e3,e4⟩|⟨hk',hu'⟩
  ·
   exact absurd (e1.trans e3.symm) hne
  ·
   rcases ne9 k' u' hu' hk' with q|q
   ·
    rw [e2]
    cases hq:v9.ownBlock with
    | none=>exact .inl rfl
    | some b=>rw [q];exact .inr (fun e=>by cases e)
   ·
    rw [e2];exact .inr (fun e=>q e.symm)
  ·
   rw [e4];exact ne9 k u hu hk
  ·
   exact h.apart k k' u u' hu hu' hne
theorem GrpsAt.keep{w w':World}{gb n base bT gT m:Nat}{F:Nat→List Nat}{vs:List Value}{ws:List Nat}(h:GrpsAt w gb n base F vs)(hs:SetAt w bT gT m ws)(hg:w.grownBy w' (some gT)):GrpsAt w' gb n base F vs:=
 ⟨h.arr.kept hg (fun e=>(hs.wordsT.ne_type h.arr (by decide)) (Option.some.inj e).symm),h.len,fun g v hv=>own_kept (h.own g v hv) hg (hs.wordsT.ne (h.own g v hv) (by decide)),h.apart⟩
theorem own_cat{w:World}{B m:Nat}{e:TypeId}{v:Value}{xs ys:List Nat}(hm:m=ys.length)(h:w.ownsRow B e 1 v (xs.length+m) (xs.flatMap encI++ys.flatMap encI)):GOwn encI 1 e w B v (xs++ys):=by
 unfold GOwn
 rw [List.length_append,List.flatMap_append,← hm];exact h
theorem row_len{w:World}{m:Nat}{v:Value}{ys:List Nat}(hm:m=ys.length)(h:GRow encI 1 w v ys):Row w v m 1 (ys.flatMap encI):=by
 unfold GRow at h
 rw [hm];exact h
theorem oneInts(ys:List Nat):∀ u∈ys.flatMap encI,u.oneCell'=true:=fun u hu=>by
 obtain⟨x,_,hx⟩:=List.mem_flatMap.1 hu
 exact oneI x u hx
theorem own_form2{w:World}{B:Nat}{e:TypeId}{v:Value}{xs l2:List Nat}(h:GOwn encI 1 e w B v xs)(hx:xs=l2):∃(p:Option Addr) (c:Nat),v=.slice p l2.length c∧GOwn encI 1 e w B v l2:=by
 subst hx
 obtain⟨p,c,e⟩:=own_form h
 exact⟨p,c,e,h⟩
theorem grown_own{α:Type}{enc:α→List Value}{sz:Nat}{e:TypeId}{w w1 w2:World}{row:Option Nat}{B:Nat}{v:Value}{xs:List α}(h:w.grownBy w1 row)(ho:GOwn enc sz e w1 B v xs)(hB:w.heap.size≤B)(hg:w1.grownBy w2 v.ownBlock):w.grownBy w2 row:=by
 refine⟨hg.os.trans h.os,hg.tape.trans h.tape,hg.output.trans h.output,Nat.le_trans h.size hg.size,fun k hk hne => ?_⟩
 rw [hg.block k (Nat.lt_of_lt_of_le hk h.size) (fun q=>by have:=gown_low ho q.symm;omega)]
 exact h.block k hk hne
theorem takeTo_is(R:List (Nat × Nat))(n g:Nat):takeTo R g n=takeG R n g:=rfl
theorem takeTo_nil{R:List (Nat × Nat)}{g n:Nat}(h:¬ groupM R g=g):takeTo R g n=[]:=by
 rw [takeTo_is]
 refine List.eq_nil_iff_forall_not_mem.2 fun i hi => ?_
 have:=(mem_takeG.1 hi).2
 exact h (by rw [← this];exact groupM_idem R i)
theorem takeTo_pos{R:List (Nat × Nat)}{g n:Nat}(hg:g<n)(h:groupM R g=g):0<(takeTo R g n).length:=by
 rw [takeTo_is]
 exact List.length_pos_of_mem (mem_takeG.2 ⟨hg,h⟩)
theorem takeTo_lt{R:List (Nat × Nat)}{g n i:Nat}(h:i∈takeTo R g n):i<n:=by rw [takeTo_is] at h;exact(mem_takeG.1 h).1
theorem takeTo_step{R:List (Nat × Nat)}{i g:Nat}(h:groupM R i=g):takeTo R g (i+1)=takeTo R g i++[i]∧∀ k,k≠g→takeTo R k (i+1)=takeTo R k i:=
 ⟨takeTo_yes h,fun _ hk=>takeTo_no (fun e=>hk (e.symm.trans h))⟩
theorem within_iff{n:Nat}{wa wb:List Nat}:withinB n wa wb=true↔∀ i,i<n→bitW wa i=true→bitW wb i=true:=by unfold withinB;simp
theorem has_mem{n g:Nat}{ws l:List Nat}(hg:g<n)(h:∀ j,bitW ws j=true↔j∈l):hasS n ws g=memB l g:=by
 unfold hasS
 rw [Bool.eq_iff_iff,memB_iff,Bool.and_eq_true,h,decide_eq_true_iff]
 exact⟨And.right,fun q=>⟨hg,q⟩⟩
theorem within_free{R:List (Nat × Nat)}{n g:Nat}{wa ws l:List Nat}(ha:∀ j,bitW wa j=true↔j<n∧BeforeP R j g)(h:∀ j,bitW ws j=true↔j∈l):withinB n wa ws=freeB R n l g:=by
 rw [Bool.eq_iff_iff,within_iff,freeB_iff]
 constructor
 ·
  intro q j hj hb;exact(h j).1 (q j hj ((ha j).2 ⟨hj,hb⟩))
 ·
  intro q j hj hb;exact(h j).2 (q j hj ((ha j).1 hb).2)
theorem put_bits{ws ws' l lg:List Nat}{q x n:Nat}(hx:lg[q]? = some x)(hxn:x<n)(h:∀ j,bitW ws j=true↔j∈l++lg.take q)(h':∀ j,bitW ws' j=(bitW ws j || (decide (j=x) && decide (x<n)))):∀ j,bitW ws' j=true↔j∈l++lg.take (q+1):=fun j=>by
 rw [h',Bool.or_eq_true,h,take_one hx]
 simp [hxn,or_assoc]
def GsRel(w2:World)(R:List (Nat × Nat))(gb n:Nat)(v23:Value)(wr:World):Prop:=∃(i:Nat) (vs:List Value),i≤n∧v23=.int .i64 i∧Hid (GrpsAt wr gb n gb (fun g=>takeTo R g i) vs)∧Hid (Below w2.heap.size w2 wr)
structure TopAt (w1 w3:World) (R:List (Nat × Nat)) (bT gT n:Nat) (l:List Nat) (v:Value) (ws:List Nat) (wr:World):Prop where
 own:GOwn encI 1 3 wr w3.heap.size v l
 set:SetAt wr bT gT n ws
 ok:SetOk n ws
 bits:∀ j,bitW ws j=true↔j∈l
 grown:w3.grownBy wr (some gT)
 below:Below w1.heap.size w1 wr
def ToRel(w1 w3:World)(R:List (Nat × Nat))(bT gT n:Nat)(v8:Value)(wr:World):Prop:=∃(c:Nat) (l:List Nat) (p:Option Addr) (k:Nat) (ws:List Nat),Hid (l=orderTo R n c)∧v8=.slice p l.length k∧Hid (TopAt w1 w3 R bT gT n l (.slice p l.length k) ws wr)
def TiRel(wo:World)(R:List (Nat × Nat))(n:Nat)(l:List Nat)(p:Option Addr)(k:Nat)(v8 v47:Value)(wr:World):Prop:=∃ g:Nat,g≤n∧v8=.slice p l.length k∧v47=.int .i64 g∧Hid (∀ g',g'<g→¬ MayTake R n l g')∧wr=wo
def TpRel(wo:World)(bT gT n m:Nat)(l lg:List Nat)(v71:Value)(wr:World):Prop:=∃(q:Nat) (ws:List Nat),q≤m∧v71=.int .i64 q∧Hid (SetAt wr bT gT n ws)∧Hid (SetOk n ws)∧Hid (∀ j,bitW ws j=true↔j∈l++lg.take q)∧Hid (wo.grownBy wr (some gT))
attribute [local irreducible] memB leadB befB freeB takeTo withinB hasS ahV
set_option maxHeartbeats 16000000 in
set_option maxRecDepth 100000 in
theorem order_any(r n:Nat)(R:List (Nat × Nat))(w:World)(h:RelAt w r n R):Calls Tryz.prog 78 #[.pointer (some ⟨r,0,none⟩)] w (OwnRes encI 1 3 w (orderM R n)):=by
 have hn:=h.1
 have HH:=Lib.hid h
 have hq:24*n≤281474976710656:=by omega
 have hm:n≤maxLen:=by unfold maxLen;omega
 clear h
 go_enter Tryz.func78,Tryz.ntmps78
 go_wp2_with fail
 refine(ahead_any r n R _ HH.out).mono ?_
 rintro e w1 ⟨go,BA,rfl,hgo,hAh,hb1⟩
 have HAH:=Lib.hid hAh
 have HB1:=Lib.hid hb1
 have HH1:=Lib.hid (HH.out.over hb1)
 clear hAh hb1
 go_wp2_with fail
 refine(rchLen_any r n R _ HH1.out).mono ?_
 rintro e w1' ⟨rfl,hw⟩
 obtain rfl:=hw.symm
 go_wp2_with fail
 refine(mnew_any n _ hn).mono ?_
 rintro e w2 ⟨bT,gT,rfl,hbT,hgT,hsT,hb2⟩
 have HST:=Lib.hid hsT
 have HB2:=Lib.hid hb2
 have HH2:=Lib.hid (HH1.out.over hb2)
 clear hsT hb2
 go_wp2_with fail
 refine(rchLen_any r n R _ HH2.out).mono ?_
 rintro e w2' ⟨rfl,hw⟩
 obtain rfl:=hw.symm
 go_upto_region 3 with(at_make;refine wpList_make_zeros slzRows rfl _ _ rfl w2.heap.size n _ rfl rfl rfl hq hm (Nat.le_refl _) ?_;intro w3 ho3 hg3)
 have HB3:=Lib.hid (grown_over' hg3 (fun g hg=>by cases hg))
 obtain⟨hA3,_⟩:=own_full ho3
 obtain⟨gb,hgb⟩:∃ gb,gb=w2.heap.size:=⟨_,rfl⟩
 rw [← hgb] at hA3
 have HG0:Hid (GrpsAt w3 gb n gb (fun g=>takeTo R g 0) (List.replicate n (.slice none 0 0))):=⟨hA3,by simp,fun g v hv=>by
  obtain rfl:=(List.mem_replicate.1 (List.mem_of_getElem? hv)).2
  rw [takeTo_zero];exact gown_nil _ _,fun g g' v v' hv _ _=>by
  obtain rfl:=(List.mem_replicate.1 (List.mem_of_getElem? hv)).2
  exact .inl rfl⟩
 have HH3:=Lib.hid (HH2.out.over HB3.out)
 rw [← hgb]
 have hgl:w2.heap.size≤gb:=by omega
 have hgl3:gb<w3.heap.size:=HG0.out.arr.arr.lt
 clear hA3 ho3 hg3 hgb
 go_wp2_with fail
 refine(rchLen_any r n R _ HH3.out).mono ?_
 rintro e w3' ⟨rfl,hw⟩
 obtain rfl:=hw.symm
 go_wp2_with fail
 go_loopw [23] (fun v23 wr=>GsRel w2 R gb n v23 wr) (fun v23 _=>n - (intOf v23).toNat)
 case atStart=>exact⟨0,_,by omega,rfl,HG0,HB3⟩
 case round =>
  obtain⟨i,vs,hi,rfl,HG,HB4⟩:=hrel
  rename World=>wr
  have HHr:=Lib.hid (HH2.out.over HB4.out)
  by_cases hlt:i<n
  ·
   obtain⟨g,hg⟩:∃ g,groupM R i=g:=⟨_,rfl⟩
   have hgn:g<n:=by rw [← hg];exact Nat.lt_of_le_of_lt (groupM_le R i) hlt
   have HGR:=Lib.hid hg
   have hgv:g<vs.length:=by rw [HG.out.len];exact hgn
   obtain⟨v,hv⟩:=get_of_lt hgv
   have HV:=Lib.hid hv
   have hov:=HG.out.own g v hv
   obtain⟨lf,hlf⟩:∃ lf,lf=takeTo R g i:=⟨_,rfl⟩
   simp only [← hlf] at hov
   have hll:lf.length≤n:=by rw [hlf];exact Nat.le_trans (takeTo_len R g i) hi
   have HLF:=Lib.hid hlf
   have HOV:=Lib.hid hov
   obtain⟨p,c,rfl⟩:=own_form hov
   have c0:=HG.out.arr.arr.cell hv
   have sg:=HG.out.arr.arr.lt
   have hvl:=HG.out.len
   have hN:lf.length+1≤1099511627776:=by omega
   have hB:gb≤wr.heap.size:=Nat.le_of_lt sg
   clear hv hov hlf hg
   go_wp2_with fail
   refine(rchGroup_any r n i R _ HHr.out hlt hn).mono ?_
   rintro e w5 ⟨rfl,hw⟩
   obtain rfl:=hw.symm
   rw [HGR.out]
   go_wp2_with (at_builtin;refine wpList_append_newK slIntI rfl _ _ rfl gb _ _ (drawn_refl _) 1 _ _ _ HOV.out rfl rfl rfl rfl hN (by decide) hB ?_;intro v9 w9 ho9 hg9 hb9;have hO9:=GOwn.snoc (x:=i) ho9;have HG9:=Lib.hid hg9;have HB9:=Lib.hid hb9;have HO9:=Lib.hid hO9;(obtain⟨lf2,p9,c9,e9,hl2⟩:=own_more hO9);clear hl2;have HE9:=Lib.hid e9;(rw [e9]);have hA9:=HG.out.arr.kept hg9 (HG.out.arr.ne HOV.out (by decide));have f9:=hA9.arr.free g;have c90:=hA9.arr.cell HV.out;have s9:=hA9.arr.lt;clear ho9 hg9 hb9 hO9 e9 hA9)
   have HPU:=Lib.hid (HG.out.push (F':=fun g=>takeTo R g (i+1)) (i:=i) HV.out (by rw [← HLF.out];exact HO9.out) HG9.out HB9.out (takeTo_step HGR.out).1 (takeTo_step HGR.out).2)
   have HBn:=Lib.hid ((below_grown HB4.out HB4.out.size (HOV.out.base hgl) HG9.out).setCell (p:=⟨gb,g,none⟩) hgl v9)
   rw [HE9.out] at HPU HBn
   go_roundw
   case rel=>exact⟨i+1,_,hlt,by go_num,HPU,HBn⟩
   case measure=>simp [intOf];omega
  ·
   obtain rfl:n=i:=by omega
   rename World=>w4
   have HSTr:=Lib.hid (HST.out.over HB4.out)
   have HB5:=Lib.hid (below_over HB2.out HB2.out.size HB4.out)
   have hw4:w.heap.size≤w4.heap.size:=by
    have:=HB1.out.size;have:=HB2.out.size;have:=HB4.out.size;omega
   have hw14:w1.heap.size≤w4.heap.size:=HB5.out.size
   clear HST HB4 HHr HG0 HH3 HB3
   go_wp2_with fail
   go_loopw [8] (fun v8 wr=>ToRel w1 w4 R bT gT n v8 wr) (fun v8 _=>n - slLen v8)
   case atStart=>exact⟨0,[],none,0,zerosW n,rfl,rfl,⟨gown_nil _ _,HSTr.out,zerosW_ok hn,fun j=>by rw [zerosW_bit];simp,World.grownBy.refl _ _,HB5.out⟩⟩
   case round =>
    obtain⟨c,l,p,k,ws,HL,rfl,HT⟩:=hrel
    rename World=>wo
    have hln:l.length≤n:=by rw [HL.out];exact ord_len R n c
    have HRo:=Lib.hid (HH1.out.over HT.out.below)
    by_cases hlo:l.length<n
    ·
     have d1:decide ((l.length:Int)<(n:Int))=true:=by simp;omega
     have d2:decide (l.length<n)=true:=by simp [hlo]
     have HPL:Hid ((∀ g',g'<n→¬ MayTake R n l g')→False):=fun q=>pick_lt (R:=R) (n:=n) (c:=c) (by rw [← HL.out];exact hlo) (by rw [← HL.out];exact q)
     go_wp2_with fail
     refine(rchLen_any r n R _ HRo.out).mono ?_
     rintro e w5 ⟨rfl,hw⟩
     obtain rfl:=hw.symm
     go_wp2_with fail
     clear d1 d2
     go_hide hQ
     go_loopw [8,47] (fun v8 v47 wi=>TiRel wo R n l p k v8 v47 wi) (fun _ v47 _=>n - (intOf v47).toNat)
     case atStart=>exact⟨0,by omega,rfl,rfl,Lib.hid (fun g' hg'=>absurd hg' (Nat.not_lt_zero g')),rfl⟩
     case round =>
      obtain⟨g,hg,rfl,rfl,HM,hwx⟩:=hrel
      obtain rfl:=hwx
      rename World=>wo
      by_cases hlt:g<n
      ·
       have HGo:=Lib.hid (HG.out.keep HSTr.out HT.out.grown)
       obtain⟨v,hv⟩:=get_of_lt (xs:=vs) (i:=g) (by rw [HG.out.len];exact hlt)
       have HV:=Lib.hid hv
       have hov:=HGo.out.own g v hv
       obtain⟨lg,hlg⟩:∃ lg,lg=takeTo R g n:=⟨_,rfl⟩
       simp only [← hlg] at hov
       obtain⟨pg,cg,rfl⟩:=own_form hov
       obtain⟨m,hmm⟩:∃ m,m=lg.length:=⟨_,rfl⟩
       rw [← hmm] at hov
       have HOV:=Lib.hid hov
       have c0:=HGo.out.arr.arr.cell hv
       rw [← hmm] at c0
       have sg:=HGo.out.arr.arr.lt
       have HLG:=Lib.hid hlg
       have HML:=Lib.hid hmm
       have hml:m≤n:=by rw [hmm,hlg];exact takeTo_len R g n
       by_cases he:groupM R g=g
       ·
        have hpos:0<m:=by rw [hmm,hlg];exact takeTo_pos hlt he
        have e1:((m:Int) == 0)=false:=by simp;omega
        have HE2:=Lib.hid he
        clear hv hov hmm hlg he
        cases hme:memB l g with
        | true =>
         have HMV:=Lib.hid ((has_mem hlt HT.out.bits).trans hme)
         have HN:=Lib.hid (not_may HM.out (.inr (.inl hme)))
         clear hme
         go_wp2_with fail
         refine(mhas_any bT gT n g ws _ HT.out.set HT.out.ok).mono ?_
         rintro e w6 ⟨rfl,hw⟩
         obtain rfl:=hw.symm
         rw [HMV.out]
         go_wp2_with fail
         go_roundw
         case rel=>exact⟨g+1,hlt,rfl,by go_num,HN,rfl⟩
         case measure=>simp [intOf];omega
        | false =>
         have HMV:=Lib.hid ((has_mem hlt HT.out.bits).trans hme)
         have HAo:=Lib.hid (HAH.out.over HT.out.below)
         have c1:=HAo.out.arr.arr.cell (ahV_get hlt)
         rw [if_pos hlt] at c1
         have sa:=HAo.out.arr.arr.lt
         obtain⟨wa,a1,a2,a3⟩:=HAo.out.sets g hlt
         have HA1:=Lib.hid a1
         have HA2:=Lib.hid a2
         have HWF:=Lib.hid (within_free a3 HT.out.bits)
         clear a1 a2 a3
         cases hfr:freeB R n l g with
         | false =>
          have HWV:=Lib.hid (HWF.out.trans hfr)
          have HN:=Lib.hid (not_may HM.out (.inr (.inr hfr)))
          clear hme hfr
          go_wp2_with fail
          refine(mhas_any bT gT n g ws _ HT.out.set HT.out.ok).mono ?_
          rintro e w6 ⟨rfl,hw⟩
          obtain rfl:=hw.symm
          rw [HMV.out]
          go_wp2_with fail
          refine(mwithin_any (BA g).1 (BA g).2 bT gT n wa ws _ HA1.out HA2.out HT.out.set HT.out.ok).mono ?_
          rintro e w7 ⟨rfl,hw⟩
          obtain rfl:=hw.symm
          rw [HWV.out]
          go_wp2_with fail
          go_roundw
          case rel=>exact⟨g+1,hlt,rfl,by go_num,HN,rfl⟩
          case measure=>simp [intOf];omega
         | true =>
          have HWV:=Lib.hid (HWF.out.trans hfr)
          have HSTp:=Lib.hid (pick_is (may_of hlt HE2.out hme hfr) HM.out)
          clear hme hfr
          go_wp2_with fail
          refine(mhas_any bT gT n g ws _ HT.out.set HT.out.ok).mono ?_
          rintro e w6 ⟨rfl,hw⟩
          obtain rfl:=hw.symm
          rw [HMV.out]
          go_wp2_with fail
          refine(mwithin_any (BA g).1 (BA g).2 bT gT n wa ws _ HA1.out HA2.out HT.out.set HT.out.ok).mono ?_
          rintro e w7 ⟨rfl,hw⟩
          obtain rfl:=hw.symm
          rw [HWV.out]
          go_wp2_with fail
          clear c0 c1 sg sa e1
          go_hide hQ2
          go_loopw [71] (fun v71 wi=>TpRel wo bT gT n m l lg v71 wi) (fun v71 _=>m - (intOf v71).toNat)
          case atStart=>exact⟨0,ws,by omega,rfl,HT.out.set,HT.out.ok,Lib.hid (by rw [List.take_zero,List.append_nil];exact HT.out.bits),World.grownBy.refl _ _⟩
          case round =>
           obtain⟨q,ws2,hq,rfl,HS2,HO2,HBt,HGw⟩:=hrel
           rename World=>wq
           have hovq:GOwn encI 1 3 wq gb (.slice pg m cg) lg:=own_kept HOV.out HGw.out (HT.out.set.wordsT.ne HOV.out (by decide))
           by_cases hql:q<m
           ·
            obtain⟨x,hx⟩:=get_of_lt (xs:=lg) (i:=q) (by rw [← HML.out];exact hql)
            have hxn:x<n:=takeTo_lt (R:=R) (g:=g) (by rw [← HLG.out];exact List.mem_of_getElem? hx)
            obtain⟨a7,c7,e7,_,_,hc7⟩:=irow_at hovq.row
            cases e7
            obtain⟨b6,off6,rfl,_,_⟩:=hc7.resolve_left (by rw [← HML.out];omega)
            have q0:=(own_int hovq hx).2
            have sq:=(own_int hovq hx).1
            have HX:=Lib.hid hx
            clear hx hovq hc7
            go_wp2_with fail
            refine(mput_any bT gT n x ws2 _ HS2.out HO2.out).mono ?_
            rintro e w8 ⟨okp,ws3,rfl,s1,s2,s3,hg8,_⟩
            have HS3:=Lib.hid s1
            have HO3:=Lib.hid s2
            have HBn:=Lib.hid (put_bits HX.out hxn HBt.out s3)
            have HGn:=Lib.hid (grown_trans HGw.out hg8)
            clear s1 s2 s3 hg8
            go_wp2_with fail
            go_roundw
            case rel=>exact⟨q+1,ws3,hql,by go_num,HS3,HO3,HBn,HGn⟩
            case measure=>simp [intOf];omega
           ·
            obtain rfl:q=m:=by omega
            have hbn:=HBt.out
            rw [show lg.take q=lg from by rw [HML.out];exact List.take_length] at hbn
            have HBn:=Lib.hid hbn
            have HF6:=Lib.hid (own_kept HT.out.own HGw.out (HT.out.set.wordsT.ne HT.out.own (by decide)))
            have HRow:=Lib.hid (row_len HML.out hovq.row)
            have HGq:=Lib.hid (grown_trans HT.out.grown HGw.out)
            have HBq:=Lib.hid (HT.out.below.grown HGw.out HT.out.below.size fun q hq=>by cases hq;exact hgT)
            have hN:l.length+q≤1099511627776:=by omega
            have hB:w4.heap.size≤wq.heap.size:=HGq.out.size
            have hl2:=HSTp.out
            rw [← HLG.out] at hl2
            have HL2:Hid (stepO R n l=orderTo R n (c+1)):=by show _=_;rw [HL.out];rfl
            have hgrow:l.length<(stepO R n l).length:=by
             obtain⟨_,_,_,q⟩:=step_grows (orderTo_whole R n c) (by rw [← HL.out];exact hlo)
             rw [← HL.out] at q;exact q
            generalize stepO R n l=l2 at *
            have HCat:=Lib.hid hl2.symm
            clear hbn hovq hl2
            go_wp2_with fail
            subst hQ2
            go_wp2_with (at_builtin;refine wpList_append_old slIntI rfl _ _ rfl w4.heap.size (.slice p l.length k) l.length (l.flatMap encI) HF6.out rfl (.slice pg q cg) q (lg.flatMap encI) HRow.out rfl (oneInts lg) hN (by decide) hB ?_;intro v9 w9 ho9 hg9;(obtain⟨p9,c9,e9,hO9⟩:=own_form2 (own_cat HML.out ho9) HCat.out);subst e9;have HO9:=Lib.hid hO9;have HG9:=Lib.hid hg9;clear ho9 hg9 hO9)
            subst hQ
            go_wp2_with fail
            go_roundw
            case rel=>exact⟨c+1,l2,p9,c9,ws2,HL2,rfl,⟨HO9.out,HS2.out.grown HG9.out (HS2.out.headT.ne HF6.out (by decide)) (HS2.out.wordsT.ne HF6.out (by decide)),HO2.out,fun j=>by rw [← HCat.out];exact HBn.out j,grown_own HGq.out HF6.out (Nat.le_refl _) HG9.out,below_grown HBq.out HBq.out.size (HF6.out.base hw14) HG9.out⟩⟩
            case measure=>simp [slLen];omega
       ·
        have hm0:m=0:=by rw [hmm,hlg,takeTo_nil he];rfl
        have e1:((m:Int) == 0)=true:=by simp [hm0]
        have HN:=Lib.hid (not_may HM.out (.inl he))
        clear hv hov hmm hlg he hm0
        go_wp2_with fail
        go_roundw
        case rel=>exact⟨g+1,hlt,rfl,by go_num,HN,rfl⟩
        case measure=>simp [intOf];omega
      ·
       obtain rfl:g=n:=by omega
       exact(HPL.out HM.out).elim
    ·
     have d1:decide ((l.length:Int)<(n:Int))=false:=by simp;omega
     have d2:decide (l.length<n)=false:=by simp;omega
     have HE:Hid (l=orderM R n):=by show _=_;rw [HL.out];exact order_done R n (by rw [← HL.out];omega)
     have HF1:=Lib.hid (HT.out.own.base hw4)
     have HBe:=Lib.hid (below_over HB1.out HB1.out.size HT.out.below)
     go_wp2_with fail
     refine(rchLen_any r n R _ HRo.out).mono ?_
     rintro e w5 ⟨rfl,hw⟩
     obtain rfl:=hw.symm
     go_wp2_with fail
     go_ret
     exact⟨_,rfl,(by rw [← HE.out];exact HF1.out),HBe.out⟩
end Go.Proofs.YtanfebljiblhbaaGreatDoor
namespace Go.Proofs.YtanfebljiblhbaaGreatDoor
open Go Go.RowKit

def CtRel(R:List (Nat × Nat))(l:List Nat)(n:Nat)(w:World)(v:Value)(wr:World):Prop:=∃ k:Nat,k≤n∧v=.int .i64 k∧Hid (∀ i x:Nat,i<k→l[i]? = some x→∀ y∈l.drop n,befB R x y=true)∧wr=w
def Ct2Rel(R:List (Nat × Nat))(l:List Nat)(n x:Nat)(w:World)(v:Value)(wr:World):Prop:=∃ k:Nat,k≤l.length - n∧v=.int .i64 k∧Hid (∀ j y:Nat,j<k→l[n+j]? = some y→befB R x y=true)∧wr=w
theorem cut_yes{R:List (Nat × Nat)}{l:List Nat}{n:Nat}(hn:n≤l.length)(h:∀ i x:Nat,i<n→l[i]? = some x→∀ y∈l.drop n,befB R x y=true):cutB R l n=true:=by
 unfold cutB
 rw [List.all_eq_true]
 intro x hx
 obtain⟨i,hi⟩:=List.getElem?_of_mem hx
 have hi1:=(List.getElem?_eq_some_iff.1 hi).1
 rw [List.length_take] at hi1
 rw [List.getElem?_take,if_pos (by omega)] at hi
 rw [List.all_eq_true]
 exact h i x (by omega) hi
theorem cut_no{R:List (Nat × Nat)}{l:List Nat}{n i j x y:Nat}(hi:i<n)(hx:l[i]? = some x)(hy:l[n+j]? = some y)(h:befB R x y=false):cutB R l n=false:=by
 unfold cutB
 rw [List.all_eq_false]
 refine⟨x,List.mem_of_getElem? (i:=i) (by rw [List.getElem?_take,if_pos hi];exact hx),?_⟩
 rw [Bool.not_eq_true,List.all_eq_false]
 exact⟨y,List.mem_of_getElem? (i:=j) (by rw [List.getElem?_drop];exact hy),by rw [h];decide⟩
theorem ct_next{R:List (Nat × Nat)}{l:List Nat}{n k x:Nat}(h:∀ i x:Nat,i<k→l[i]? = some x→∀ y∈l.drop n,befB R x y=true)(hx:l[k]? = some x)(h2:∀ j y:Nat,j<l.length - n→l[n+j]? = some y→befB R x y=true) :
  ∀ i x:Nat,i<k+1→l[i]? = some x→∀ y∈l.drop n,befB R x y=true:=by
 intro i z hi hz y hy
 rcases Nat.lt_or_ge i k with h1|h1
 ·
  exact h i z h1 hz y hy
 ·
  obtain rfl:i=k:=by omega
  rw [hx] at hz
  cases hz
  obtain⟨j,hj⟩:=List.getElem?_of_mem hy
  have hj1:=(List.getElem?_eq_some_iff.1 hj).1
  rw [List.length_drop] at hj1
  rw [List.getElem?_drop] at hj
  exact h2 j y hj1 hj
attribute [local irreducible] cutB befB
set_option maxHeartbeats 8000000 in
set_option maxRecDepth 100000 in
theorem bcut_any(r n:Nat)(R:List (Nat × Nat))(v:Value)(l:List Nat)(k:Nat)(w:World)(h:RelAt w r n R)(hv:GRow encI 1 w v l)(hl:∀ i∈l,i≤1000000)(hk:k<l.length) :
  Calls Tryz.prog 105 #[.pointer (some ⟨r,0,none⟩),v,.int .i64 k] w fun e w'=>e=.returned (.bool (cutB R l k))∧w'=w:=by
 obtain⟨a,cap,rfl,h1,h2,hc⟩:=irow_at hv
 unfold maxLen at h2
 obtain⟨b,off,rfl,sb,hcb⟩:=hc.resolve_left (by omega)
 have HC:=Lib.hid hcb
 have HR:=Lib.hid h
 have HL:=Lib.hid hl
 clear hv hcb h hl hc
 go_enter Tryz.func105,Tryz.ntmps105
 go_wp2_with fail
 go_loopw [15] (fun v15 wr=>CtRel R l k w v15 wr) (fun v15 _=>k - (intOf v15).toNat)
 case atStart=>exact⟨0,by omega,rfl,Lib.hid (fun i x hi=>absurd hi (by omega)),rfl⟩
 case round =>
  obtain⟨i,hi,rfl,HK,hw⟩:=hrel
  obtain rfl:=hw.symm
  by_cases hlt:i<k
  ·
   obtain⟨x,hx⟩:=get_of_lt (xs:=l) (i:=i) (by omega)
   have x0:=(HC.out i x hx _ (Below.refl _ _)).2
   have HX:=Lib.hid hx
   have hxl:=HL.out x (List.mem_of_getElem? hx)
   clear hx
   go_wp2_with fail
   go_loopw [23] (fun v23 wr=>Ct2Rel R l k x w v23 wr) (fun v23 _=>l.length - k - (intOf v23).toNat)
   case atStart=>exact⟨0,by omega,rfl,Lib.hid (fun i x hi=>absurd hi (by omega)),rfl⟩
   case round =>
    obtain⟨j,hj,rfl,HJ,hw⟩:=hrel
    obtain rfl:=hw.symm
    by_cases hlt2:j<l.length - k
    ·
     obtain⟨y,hy⟩:=get_of_lt (xs:=l) (i:=k+j) (by omega)
     have y0:=(HC.out (k+j) y hy _ (Below.refl _ _)).2
     have HY:=Lib.hid hy
     have hyl:=HL.out y (List.mem_of_getElem? hy)
     have y1:w.cell? ⟨b,off+k+j,none⟩=some (.int .i64 y):=by rw [Nat.add_assoc];exact y0
     clear hy y0
     cases hf:befB R x y with
     | true =>
      have HF:=Lib.hid hf
      have HJ2:Hid (∀ i z:Nat,i<j+1→l[k+i]? = some z→befB R x z=true):=Lib.hid fun i z hi hz=>by
       rcases Nat.lt_or_ge i j with h1|h1
       ·
        exact HJ.out i z h1 hz
       ·
        obtain rfl:i=j:=by omega
        rw [HY.out] at hz;cases hz;exact HF.out
      clear hf
      go_wp2_with fail
      refine(rchBefore_any r n x y R _ HR.out hxl hyl).mono ?_
      rw [HF.out]
      rintro e w1 ⟨rfl,hw⟩
      obtain rfl:=hw.symm
      go_wp2_with fail
      go_roundw
      case rel=>exact⟨j+1,by omega,by go_num,HJ2,(by first|exact rfl|trivial)⟩
      case measure=>simp [intOf];omega
     | false =>
      have HF:=Lib.hid hf
      have HN:=Lib.hid (cut_no hlt HX.out HY.out hf)
      clear hf
      go_wp2_with fail
      refine(rchBefore_any r n x y R _ HR.out hxl hyl).mono ?_
      rw [HF.out]
      rintro e w1 ⟨rfl,hw⟩
      obtain rfl:=hw.symm
      go_wp2_with fail
      go_ret
      exact⟨ret_val (congrArg Value.bool HN.out.symm),rfl⟩
    ·
     obtain rfl:j=l.length - k:=by omega
     have HK2:=Lib.hid (ct_next HK.out HX.out HJ.out)
     go_wp2_with fail
     go_roundw
     case rel=>exact⟨i+1,by omega,by go_num,HK2,(by first|exact rfl|trivial)⟩
     case measure=>simp [intOf];omega
  ·
   obtain rfl:i=k:=by omega
   have HN:=Lib.hid (cut_yes (by omega) HK.out)
   go_wp2_with fail
   go_ret
   exact⟨ret_val (congrArg Value.bool HN.out.symm),rfl⟩
end Go.Proofs.YtanfebljiblhbaaGreatDoor
namespace Go.Proofs.YtanfebljiblhbaaGreatDoor
open Go Go.RowKit

/-- a block as it lies: with the value of the row of what is in it -/
inductive BlL where
 | mk (kind num:Int) (sv:Value) (subs:List BlL)
def encBl:BlL→List Value
 | .mk k n sv _=>[.int .i64 k,.int .i64 n,sv]
theorem encBl_len(x:BlL):(encBl x).length=3:=by cases x;rfl
mutual
def bareB:BlL→BlkM
 | .mk k n _ s=>.mk k n (bareL s)
def bareL:List BlL→List BlkM
 | []=>[]
 | b :: l=>bareB b :: bareL l
end
theorem bareL_map:∀ l:List BlL,bareL l=l.map bareB
 | []=>by unfold bareL;rfl
 | b :: l=>by unfold bareL;rw [bareL_map l];rfl
mutual
/-- what is in a block lies in w, in blocks of which A holds -/
def BIn(A:Nat→Prop)(w:World):BlL→Prop
 | .mk _ _ sv s=>GRow encBl 3 w sv s∧sv.oneCell'=true∧(∀ b,sv.ownBlock=some b→A b)∧BIns A w s
def BIns(A:Nat→Prop)(w:World):List BlL→Prop
 | []=>True
 | b :: l=>BIn A w b∧BIns A w l
end
theorem bin_mk{A:Nat→Prop}{w:World}{k n:Int}{sv:Value}{s:List BlL}:BIn A w (.mk k n sv s)↔(GRow encBl 3 w sv s∧sv.oneCell'=true∧(∀ b,sv.ownBlock=some b→A b)∧BIns A w s):=by unfold BIn;exact Iff.rfl
theorem bins_nil{A:Nat→Prop}{w:World}:BIns A w []:=by unfold BIns;trivial
mutual
theorem BIn.mono{A A':Nat→Prop}{w w':World}(hA:∀ b,A b→A' b)(hr:∀(v:Value) (xs:List BlL),(∀ b,v.ownBlock=some b→A b)→GRow encBl 3 w v xs→GRow encBl 3 w' v xs):∀ x:BlL,BIn A w x→BIn A' w' x
 | .mk k n sv s,h=>by
  unfold BIn at h ⊢
  exact⟨hr sv s h.2.2.1 h.1,h.2.1,fun b hb=>hA b (h.2.2.1 b hb),BIns.mono hA hr s h.2.2.2⟩
theorem BIns.mono{A A':Nat→Prop}{w w':World}(hA:∀ b,A b→A' b)(hr:∀(v:Value) (xs:List BlL),(∀ b,v.ownBlock=some b→A b)→GRow encBl 3 w v xs→GRow encBl 3 w' v xs):∀ l:List BlL,BIns A w l→BIns A' w' l
 | [],_=>by unfold BIns;trivial
 | b :: l,h=>by
  unfold BIns at h ⊢
  exact⟨BIn.mono hA hr b h.1,BIns.mono hA hr l h.2⟩
end
theorem BIns.over{A:Nat→Prop}{w w':World}{l:List BlL}(h:BIns A w l)(hb:Below w.heap.size w w'):BIns A w' l:=BIns.mono (fun _ h=>h) (fun _ _ _ h=>h.over hb) l h
theorem BIn.over{A:Nat→Prop}{w w':World}{x:BlL}(h:BIn A w x)(hb:Below w.heap.size w w'):BIn A w' x:=BIn.mono (fun _ h=>h) (fun _ _ _ h=>h.over hb) x h
theorem bins_append{A:Nat→Prop}{w:World}:∀ {l m:List BlL},BIns A w l→BIns A w m→BIns A w (l++m)
 | [],m,_,h=>h
 | b :: l,m,h,h'=>by
  rw [List.cons_append]
  unfold BIns at h ⊢
  exact⟨h.1,bins_append h.2 h'⟩
theorem bins_one{A:Nat→Prop}{w:World}{x:BlL}(h:BIn A w x):BIns A w [x]:=by
 unfold BIns
 exact⟨h,by unfold BIns;trivial⟩
def lineL(i:Nat):BlL:=.mk 1 i (.slice none 0 0) []
theorem lineL_bare(i:Nat):bareB (lineL i)=lineB i:=by unfold lineL lineB bareB bareL;rfl
theorem lineL_in(A:Nat→Prop)(w:World)(i:Nat):BIn A w (lineL i):=by
 exact bin_mk.2 ⟨grow_nil w,rfl,fun b hb=>(by cases hb),bins_nil⟩
theorem lines_in(A:Nat→Prop)(w:World):∀ l:List Nat,BIns A w (l.map lineL)
 | []=>by rw [List.map_nil];unfold BIns;trivial
 | i :: l=>by
  rw [List.map_cons];unfold BIns
  exact⟨lineL_in A w i,lines_in A w l⟩
theorem lines_bare(l:List Nat):bareL (l.map lineL)=l.map lineB:=by
 rw [bareL_map,List.map_map]
 exact List.map_congr_left fun i _=>lineL_bare i
theorem slBlk:SlT Tryz.prog 118 183 3 40:=slT_of Tryz.underlying118 (by kernel_rfl) (by decide)
def SmRel(w:World)(l:List Nat)(v3 v8:Value)(wr:World):Prop:=∃ k:Nat,k≤l.length∧v8=.int .i64 k∧Hid (GOwn encBl 3 183 wr w.heap.size v3 ((l.take k).map lineL))∧Hid (Below w.heap.size w wr)
theorem sm_succ{l:List Nat}{k i:Nat}(h:l[k]? = some i):(l.take (k+1)).map lineL=(l.take k).map lineL++[lineL i]:=by rw [take_one h,List.map_append];rfl
set_option maxHeartbeats 8000000 in
set_option maxRecDepth 100000 in
theorem bsome_any(v:Value)(l:List Nat)(w:World)(hv:GRow encI 1 w v l)(hn:l.length≤1000000):Calls Tryz.prog 166 #[v] w (OwnRes encBl 3 183 w (l.map lineL)):=by
 obtain⟨a,cap,rfl,h1,h2,hc⟩:=irow_at hv
 unfold maxLen at h2
 have HC:=Lib.hid hc
 clear hv hc
 go_enter Tryz.func166,Tryz.ntmps166
 go_wp2_with fail
 go_loopw [3,8] (fun v3 v8 wr=>SmRel w l v3 v8 wr) (fun _ v8 _=>l.length - (intOf v8).toNat)
 case atStart=>exact⟨0,by omega,rfl,Lib.hid (gown_nil _ _),Below.refl _ _⟩
 case round =>
  obtain⟨k,hk,rfl,HM,hbl⟩:=hrel
  rename World=>wr
  by_cases hlt:k<l.length
  ·
   obtain⟨b,off,rfl,sb,hcb⟩:=HC.out.resolve_left (by omega)
   obtain⟨i,hi⟩:=get_of_lt hlt
   obtain⟨sx,x0⟩:=hcb k i hi _ hbl.out
   have HSu:=Lib.hid (sm_succ hi)
   have hN:((l.take k).map lineL).length+1≤1099511627776:=by rw [List.length_map,List.length_take];omega
   have hB3:=hbl.out.size
   clear hcb hi
   go_wp2_with (at_builtin;(first|refine wpList_append_newD slBlk rfl _ _ rfl w.heap.size _ _ (drawn_alloc_drewN _ _ _) 1 _ _ _ HM.out rfl rfl rfl rfl hN (by decide) hB3 ?_|refine wpList_append_newD slBlk rfl _ _ rfl w.heap.size _ _ (drawn_drew _) 1 _ _ _ HM.out rfl rfl rfl rfl hN (by decide) hB3 ?_|refine wpList_append_newD slBlk rfl _ _ rfl w.heap.size _ _ (drawn_drewN _ _) 1 _ _ _ HM.out rfl rfl rfl rfl hN (by decide) hB3 ?_|refine wpList_append_newD slBlk rfl _ _ rfl w.heap.size _ _ (drawn_refl _) 1 _ _ _ HM.out rfl rfl rfl rfl hN (by decide) hB3 ?_);intro v9 w9 ho9 hg9)
   go_roundw
   case rel=>exact⟨k+1,hlt,by go_num,(by show GOwn _ _ _ _ _ _ _;rw [HSu.out];exact GOwn.snoc ho9),below_grown hbl.out hB3 HM.out hg9⟩
   case measure=>simp [intOf];omega
  ·
   obtain rfl:k=l.length:=by omega
   have HE:=HM.out
   rw [List.take_length] at HE
   have HE2:=Lib.hid HE
   clear HE
   go_wp2_with fail
   go_ret
   exact⟨_,rfl,HE2.out,hbl.out⟩
end Go.Proofs.YtanfebljiblhbaaGreatDoor
namespace Go.Proofs.YtanfebljiblhbaaGreatDoor
open Go Go.RowKit

variable {R : List (Nat × Nat)} {l : List Nat}
/-- whether a place belongs to the side of a head below m -/
noncomputable def seenB(R:List (Nat × Nat))(l:List Nat)(m k:Nat):Bool:=(headsM R l m).any fun h=>nearD R l h k
theorem seenB_iff{m k:Nat}:seenB R l m k=true↔∃ h,h∈headsM R l m∧Near R l h k:=by
 unfold seenB
 rw [List.any_eq_true]
 exact⟨fun⟨h,h1,h2⟩=>⟨h,h1,nearD_iff.1 h2⟩,fun⟨h,h1,h2⟩=>⟨h,h1,nearD_iff.2 h2⟩⟩
theorem mem_heads{m h:Nat}:h∈headsM R l m↔h<m∧headB R l h=true:=by
 unfold headsM;rw [List.mem_filter,List.mem_range]
theorem least_near:∀(m k i:Nat),k≤m→Near R l k i→∃ h,h≤k∧headB R l h=true∧Near R l h i
 | 0,k,i,hk,hn=>⟨k,Nat.le_refl _,headB_iff.2 (fun q hq=>absurd hq (by omega)),hn⟩
 | m+1,k,i,hk,hn=>by
  cases hh:headB R l k with
  | true=>exact⟨k,Nat.le_refl _,hh,hn⟩
  | false =>
   have:¬ ∀ q,q<k→¬ Near R l q k:=fun h=>by rw [headB_iff.2 h] at hh;cases hh
   obtain⟨q,hq⟩:=Classical.not_forall.1 this
   obtain⟨hq1,hq2⟩:=Classical.not_imp.1 hq
   obtain⟨h,h1,h2,h3⟩:=least_near m q i (by omega) ((Classical.not_not.1 hq2).trans hn)
   exact⟨h,by omega,h2,h3⟩
/-- what was seen is no head; what was not is one -/
theorem seen_head{i:Nat}:seenB R l i i = !headB R l i:=by
 cases hh:headB R l i with
 | true =>
  have:seenB R l i i=false:=by
   rw [Bool.eq_false_iff]
   intro hs
   obtain⟨h,h1,h2⟩:=seenB_iff.1 hs
   exact headB_iff.1 hh h (mem_heads.1 h1).1 h2
  rw [this];rfl
 | false =>
  have:¬ ∀ q,q<i→¬ Near R l q i:=fun h=>by rw [headB_iff.2 h] at hh;cases hh
  obtain⟨q,hq⟩:=Classical.not_forall.1 this
  obtain⟨hq1,hq2⟩:=Classical.not_imp.1 hq
  obtain⟨h,h1,h2,h3⟩:=least_near q q i (Nat.le_refl _) (Classical.not_not.1 hq2)
  rw [seenB_iff.2 ⟨h,mem_heads.2 ⟨by omega,h2⟩,h3⟩];rfl
/-- what hangs together with a head was not seen before it -/
theorem head_new{i k:Nat}(hi:headB R l i=true)(hk:Near R l i k):seenB R l i k=false:=by
 rw [Bool.eq_false_iff]
 intro hs
 obtain⟨h,h1,h2⟩:=seenB_iff.1 hs
 exact headB_iff.1 hi h (mem_heads.1 h1).1 (h2.trans hk.symm)
theorem seen_next_no{i:Nat}(hi:headB R l i=false):seenB R l (i+1)=seenB R l i:=by
 funext k;unfold seenB;rw [heads_succ,hi];simp
theorem seen_next_yes{i:Nat}(hi:headB R l i=true)(k:Nat):seenB R l (i+1) k=(seenB R l i k || nearD R l i k):=by
 unfold seenB;rw [heads_succ,hi];simp
/-- a side on its way: the places found; the first at' of them were followed, the next one as far as place k -/
structure Sd (R:List (Nat × Nat)) (l:List Nat) (i at' k:Nat) (s:List Nat):Prop where
 nodup:s.Nodup
 near:∀ x∈s,Near R l i x
 self:i∈s
 done:∀ a x,a<at'→s[a]? = some x→∀ j,j<l.length→nearB R (l.getD x 0) (l.getD j 0)=true→j∈s
 cur:∀ x,s[at']? = some x→∀ j,j<k→nearB R (l.getD x 0) (l.getD j 0)=true→j∈s
theorem sd_start{i:Nat}(hi:i<l.length):Sd R l i 0 0 [i]:=
 ⟨List.nodup_cons.2 ⟨List.not_mem_nil,List.nodup_nil⟩,fun x hx=>by rw [List.mem_singleton.1 hx];exact .self hi,List.mem_singleton.2 rfl,fun a x ha=>absurd ha (by omega),fun x _ j hj=>absurd hj (by omega)⟩
theorem sd_yes{i at' k u:Nat}{s:List Nat}(h:Sd R l i at' k s)(hu:s[at']? = some u)(hn:nearB R (l.getD u 0) (l.getD k 0)=true)(hk:k<l.length)(hs:k ∉ s):Sd R l i at' (k+1) (s++[k]):=by
 have hat:=(List.getElem?_eq_some_iff.1 hu).1
 refine⟨List.nodup_append.2 ⟨h.nodup,List.nodup_cons.2 ⟨List.not_mem_nil,List.nodup_nil⟩,fun a ha b hb e=>hs (by rw [← List.mem_singleton.1 hb,← e];exact ha)⟩,fun x hx => ?_,List.mem_append_left _ h.self,fun a x ha hx j hj hn' => ?_,fun x hx j hj hn' => ?_⟩
 ·
  rcases List.mem_append.1 hx with hx|hx
  ·
   exact h.near x hx
  ·
   rw [List.mem_singleton.1 hx];exact .more (h.near u (List.mem_of_getElem? hu)) hk hn
 ·
  rw [List.getElem?_append_left (by omega)] at hx
  exact List.mem_append_left _ (h.done a x ha hx j hj hn')
 ·
  rw [List.getElem?_append_left hat] at hx
  rcases Nat.lt_or_ge j k with h1|h1
  ·
   exact List.mem_append_left _ (h.cur x hx j h1 hn')
  ·
   obtain rfl:j=k:=by omega
   exact List.mem_append_right _ (List.mem_singleton.2 rfl)
theorem sd_no{i at' k u:Nat}{s:List Nat}(h:Sd R l i at' k s)(hu:s[at']? = some u)(hn:nearB R (l.getD u 0) (l.getD k 0)=false∨k∈s):Sd R l i at' (k+1) s:=by
 refine⟨h.nodup,h.near,h.self,h.done,fun x hx j hj hn' => ?_⟩
 rcases Nat.lt_or_ge j k with h1|h1
 ·
  exact h.cur x hx j h1 hn'
 ·
  obtain rfl:j=k:=by omega
  rw [hu] at hx
  cases hx
  rcases hn with h2|h2
  ·
   rw [h2] at hn';cases hn'
  ·
   exact h2
theorem sd_next{i at':Nat}{s:List Nat}(h:Sd R l i at' l.length s):Sd R l i (at'+1) 0 s:=by
 refine⟨h.nodup,h.near,h.self,fun a x ha hx j hj hn => ?_,fun x _ j hj=>absurd hj (by omega)⟩
 rcases Nat.lt_or_ge a at' with h1|h1
 ·
  exact h.done a x h1 hx j hj hn
 ·
  obtain rfl:a=at':=by omega
  exact h.cur x hx j hj hn
theorem sd_end{i k:Nat}{s:List Nat}(h:Sd R l i s.length k s)(x:Nat):x∈s↔Near R l i x:=by
 refine⟨h.near x,fun hn => ?_⟩
 induction hn with
 | self _=>exact h.self
 | @more k j h1 h2 h3 ih =>
  obtain⟨a,ha⟩:=List.getElem?_of_mem ih
  exact h.done a k (List.getElem?_eq_some_iff.1 ha).1 ha j h2 h3
theorem sd_len{i at' k:Nat}{s:List Nat}(h:Sd R l i at' k s):s.length≤l.length:=by
 have:=nodup_lenN (m:=List.range l.length) h.nodup fun x hx=>List.mem_range.2 (h.near x hx).right
 rwa [List.length_range] at this
/-- marked so far: of the sides before, and what was found -/
noncomputable def markB(R:List (Nat × Nat))(l:List Nat)(i:Nat)(s:List Nat)(k:Nat):Bool:=seenB R l i k || s.contains k
theorem mark_end{i k:Nat}{s:List Nat}(hi:headB R l i=true)(h:Sd R l i s.length k s)(q:Nat):markB R l i s q=seenB R l (i+1) q:=by
 unfold markB
 rw [seen_next_yes hi]
 congr 1
 rw [Bool.eq_iff_iff,List.contains_iff_mem,nearD_iff,sd_end h]
theorem mark_snoc{i k:Nat}{s:List Nat}(q:Nat):markB R l i (s++[k]) q=if q=k then true else markB R l i s q:=by
 unfold markB
 by_cases h:q=k
 ·
  subst h;rw [if_pos rfl];simp
 ·
  rw [if_neg h]
  congr 1
  rw [Bool.eq_iff_iff,List.contains_iff_mem,List.contains_iff_mem,List.mem_append,List.mem_singleton]
  exact⟨fun e=>e.resolve_right h,.inl⟩
theorem mark_not{i at' k u q:Nat}{s:List Nat}(hi:headB R l i=true)(h:Sd R l i at' k s)(hu:s[at']? = some u)(hq:q<l.length)(hn:nearB R (l.getD u 0) (l.getD q 0)=true):markB R l i s q=s.contains q:=by
 unfold markB
 rw [head_new hi (.more (h.near u (List.mem_of_getElem? hu)) hq hn),Bool.false_or]
end Go.Proofs.YtanfebljiblhbaaGreatDoor
