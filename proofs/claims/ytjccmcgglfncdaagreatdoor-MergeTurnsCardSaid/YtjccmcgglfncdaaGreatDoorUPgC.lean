/- What is proved: MergeTurns, for every input; of the listed tables the walk needs the powers of ten. -/
import Derived.Test.YtjccmcgglfncdaaGreatDoorUBlkS
import Derived.Test.YtjccmcgglfncdaaGreatDoorULay3
set_option linter.unusedVariables false
set_option linter.unusedSimpArgs false
set_option maxRecDepth 100000
set_option maxHeartbeats 40000000
namespace Go.Proofs.YtjccmcgglfncdaaGreatDoor
open Go Go.RowKit
section
variable{s t:List Nat}{B cap g:Nat}{w:World}
theorem encI_map(s:List Nat):s.flatMap encI=(s.map Int.ofNat).map (Value.int .i64):=by
 induction s with
 | nil=>rfl
 | cons x s ih=>rw [List.flatMap_cons,ih];rfl
theorem putCells_encI{α:Type}[Inhabited α](enc:α→Value)(d:Array α)(c:Array Value):Go.Sort.putCells enc 0 d c=Go.Sort.putCells id 0 (d.map enc) c:=by
 apply Array.ext_getElem?;intro t;simp only [Go.Sort.putCells,Array.getElem?_mapIdx,Array.size_map,Nat.sub_zero,id]
 by_cases h:t<d.size
 · rw [getElem!_pos d t h,getElem!_pos (d.map enc) t (by simpa using h)];simp
 simp [h]
theorem OwnAt.holdsI{e:TypeId}(h:OwnAt w B e 1 g s.length cap (s.flatMap encI)):Go.Sort.Holds (Value.int .i64) w g 0 (s.map Int.ofNat).toArray:=by
 intro j hj;rw [Nat.zero_add];refine⟨?_,h.free j⟩;refine h.cell ?_;have hj':j<s.length:=by simpa using hj
 rw [encI_map,List.getElem?_map,List.getElem?_map,List.getElem?_eq_getElem hj',getElem!_pos (s.map Int.ofNat).toArray j hj];simp
theorem OwnAt.putI{e:TypeId}(h:OwnAt w B e 1 g s.length cap (s.flatMap encI))(hl:t.length=s.length)(n:Nat)(os:Array Obj) :
  OwnAt (Go.Sort.grow (Go.Sort.putRow (Value.int .i64) (Go.Sort.ahead w n) g 0 (t.map Int.ofNat).toArray) os) B e 1 g s.length cap (t.flatMap encI)∧w.grownBy (Go.Sort.grow (Go.Sort.putRow (Value.int .i64) (Go.Sort.ahead w n) g 0 (t.map Int.ofNat).toArray) os) (some g):=by
 have hlt:=h.lt;obtain⟨junk,h1,h2⟩:=h.at';have hl2:(s.flatMap encI).length=(t.flatMap encI).length:=by rw [encI_map,encI_map];simp [hl]
 have hheap:(Go.Sort.putRow (Value.int .i64) (Go.Sort.ahead w n) g 0 (t.map Int.ofNat).toArray).heap[g]? = some (.cells (t.flatMap encI++junk).toArray e (0,0)):=by unfold Go.Sort.putRow Go.Sort.mapBlock;simp only [Array.getElem?_modify,if_pos];have:(Go.Sort.ahead w n).heap=w.heap:=rfl;rw [this,h1];simp only [Option.map_some,Go.Sort.onCells];rw [putCells_encI,List.map_toArray,← encI_map,putCells_row _ _ _ hl2]
 refine⟨⟨⟨junk,?_,?_⟩,by rw [← hl2];exact h.len,h.base,h.nc,h.cm⟩,?_⟩
 · rw [Go.Sort.heap_grow_old _ _ (by simp [Go.Sort.putRow,Go.Sort.mapBlock];exact hlt)];exact hheap
 · rw [List.length_append,← hl2,← List.length_append];exact h2
 refine⟨rfl,rfl,rfl,by simp [Go.Sort.putRow,Go.Sort.mapBlock,Go.Sort.ahead],fun i hi hne => ?_⟩;rw [Go.Sort.heap_grow_old _ _ (by simp [Go.Sort.putRow,Go.Sort.mapBlock];exact hi)];unfold Go.Sort.putRow Go.Sort.mapBlock;simp only [Array.getElem?_modify];rw [if_neg (fun e=>hne (by rw [e]))];rfl
theorem sortI_eq(hn:s.Nodup)(ht:t.Pairwise (· < ·))(hm:∀ x,x∈t↔x∈s):((s.map Int.ofNat).mergeSort fun x y=>decide (x≤y))=t.map Int.ofNat:=by
 have hperm:=List.mergeSort_perm (s.map Int.ofNat) fun x y=>decide (x≤y);have hsort:((s.map Int.ofNat).mergeSort fun x y=>decide (x≤y)).Pairwise fun a b=>decide (a≤b)=true:=List.pairwise_mergeSort (fun a b c h1 h2=>by simp only [decide_eq_true_eq] at *;omega) (fun a b=>by simp only [Bool.or_eq_true,decide_eq_true_eq];omega) _;have hnd:((s.map Int.ofNat).mergeSort fun x y=>decide (x≤y)).Nodup:=hperm.nodup_iff.2 ((List.pairwise_map).2 (hn.imp fun h e=>h (Int.ofNat.inj e)));have hmem:∀ z,z∈((s.map Int.ofNat).mergeSort fun x y=>decide (x≤y))↔z∈s.map Int.ofNat:=fun z=>hperm.mem_iff;refine rises_ext (key:=Int.toNat) ?_ ?_ fun z => ?_
 · have h2:=List.pairwise_and_iff.2 ⟨hsort,hnd⟩;refine h2.imp_of_mem fun {a b} ha hb h => ?_;obtain⟨x,_,rfl⟩:=List.mem_map.1 ((hmem a).1 ha);obtain⟨y,_,rfl⟩:=List.mem_map.1 ((hmem b).1 hb);have h3:=h.1;have h4:=h.2;simp only [decide_eq_true_eq] at h3;show x<y;have:x≠y:=fun e=>h4 (by rw [e]);have h5:(x:Int)≤(y:Int):=h3;omega
 · unfold Rises;rw [List.pairwise_map];exact ht.imp fun h=>h
 rw [hmem,List.mem_map,List.mem_map];exact⟨fun⟨x,h1,h2⟩=>⟨x,(hm x).2 h1,h2⟩,fun⟨x,h1,h2⟩=>⟨x,(hm x).1 h1,h2⟩⟩
def SortIRes(w:World)(B g cap:Nat)(s t:List Nat)(r:Ending)(w':World):Prop:=r=.returned (.tuple #[])∧OwnAt w' B 3 1 g s.length cap (t.flatMap encI)∧w.grownBy w' (some g)
theorem sortI_any(h:OwnAt w B 3 1 g s.length cap (s.flatMap encI))(hn:s.length≤1000000000)(hd:s.Nodup)(ht:t.Pairwise (· < ·))(hm:∀ x,x∈t↔x∈s) :
  Calls Tryz.prog 289 #[.slice (some ⟨g,0,none⟩) s.length cap] w (SortIRes w B g cap s t):=by have hcon:=AnyM.slices_Sort_int (P:=Tryz.prog) Tryz.sortInt g 0 cap (s.map Int.ofNat) w h.holdsI h.lt (by rw [List.length_map];omega);rw [List.length_map,sortI_eq hd ht hm] at hcon;refine hcon.mono ?_;rintro e w' ⟨rfl,n,os,rfl⟩;have hl:t.length=s.length:=Nat.le_antisymm (nodup_lenN (ht.imp fun h=>Nat.ne_of_lt h) fun x hx=>(hm x).1 hx) (nodup_lenN hd fun x hx=>(hm x).2 hx);obtain⟨h1,h2⟩:=h.putI hl n os;exact⟨rfl,h1,h2⟩
end
section
variable{R:List (Nat × Nat)}{l s:List Nat}{B at' gS i k n sz:Nat}{v v8:Value}{w wq wr:World}
structure SideL where
 s:List Nat
 v:Value
def encSd(x:SideL):List Value:=[x.v]
theorem encSd_len(x:SideL):(encSd x).length=1:=rfl
def seenV(S:Nat→Bool)(n:Nat):List Value:=(List.range n).map fun k=>.int .i64 (if S k then 1 else 0)
theorem seenV_len(S:Nat→Bool)(n:Nat):(seenV S n).length=n:=by unfold seenV;simp
theorem seenV_get{S:Nat→Bool}(h:k<n):(seenV S n)[k]? = some (.int .i64 (if S k then 1 else 0)):=by unfold seenV;simp [h]
theorem seenV_zero(n:Nat):seenV (fun _=>false) n=List.replicate n (.int .i64 0):=by unfold seenV;simp [List.map_const']
theorem seenV_set{S S':Nat→Bool}(h:∀ q,S' q=if q=k then true else S q):(seenV S n).set k (.int .i64 1)=seenV S' n:=by
 refine List.ext_getElem? fun q => ?_;rw [List.getElem?_set]
 by_cases hq:q<n
 ·
  rw [seenV_get hq,seenV_get hq,seenV_len,h q]
  by_cases hk:k=q
  · subst hk;simp [hq]
  have hk':¬ q=k:=fun e=>hk e.symm;simp only [if_neg hk,if_neg hk']
 have h1:(seenV S n)[q]? = none:=List.getElem?_eq_none (by rw [seenV_len];omega);have h2:(seenV S' n)[q]? = none:=List.getElem?_eq_none (by rw [seenV_len];omega);rw [h1,h2,seenV_len];split
 ·
  split
  · omega
  rfl
 rfl
theorem grown_far{w1 w2:World}{g g2:Nat}(h:w.grownBy w1 (some g))(hg:w.heap.size≤g2)(h':w1.grownBy w2 (some g2)):w.grownBy w2 (some g):=
 ⟨h'.os.trans h.os,h'.tape.trans h.tape,h'.output.trans h.output,Nat.le_trans h.size h'.size,fun k hk hn=>(h'.block k (Nat.lt_of_lt_of_le hk h.size) (fun e=>by cases e;omega)).trans (h.block k hk hn)⟩
theorem grown_belowS{w1 w2:World}{g:Nat}(h:w.grownBy w1 (some g))(h':Be w1 w2):w.grownBy w2 (some g):=
 ⟨h'.os.trans h.os,h'.tape.trans h.tape,h'.output.trans h.output,Nat.le_trans h.size h'.size,fun k hk hn=>(h'.block k (Nat.lt_of_lt_of_le hk h.size)).trans (h.block k hk hn)⟩
theorem own_lit28s{α:Type}{enc:α→List Value}(w:World)(e:TypeId)(xs:List α)(B:Nat)(hl:(xs.flatMap enc).length=xs.length*sz)(hm:xs.length≤maxLen)(hB:B≤w.heap.size):GOwn enc sz e (w.alloc (.cells (xs.flatMap enc).toArray e)) B (.slice (some ⟨w.heap.size,0,none⟩) xs.length xs.length) xs:=
 ⟨hl,.inr ⟨w.heap.size,xs.length,(xs.flatMap enc).toArray,rfl,hB,by rw [heap_alloc_new],Nat.le_refl _,hm,by simp [hl],by rw [← hl];exact List.take_length⟩⟩
theorem slSide:SlT Tryz.prog 234 160 1 24:=slT_of Tryz.underlying234 (by kernel_rfl) (by decide)
def SidesRes(w:World)(ss:List (List Nat))(e:Ending)(w':World):Prop:=∃ v xs,e=.returned v∧GOwn encSd 1 160 w' w.heap.size v xs∧(∀ x∈xs,GRow encI 1 w' x.v x.s)∧xs.map (·.s)=ss∧Be w w'
structure SiAt (wr w1:World) (gS:Nat) (R:List (Nat × Nat)) (l:List Nat) (i:Nat) (v5:Value) (xs:List SideL):Prop where
 out:GOwn encSd 1 160 wr w1.heap.size v5 xs
 rows:∀ x∈xs,GOwn encI 1 3 wr w1.heap.size x.v x.s
 bare:xs.map (·.s)=(headsM R l i).map (sideM R l)
 seen:ArrT wr gS 3 (seenV (seenB R l i) l.length)
 world:w1.grownBy wr (some gS)
def SiRel(w1:World)(gS:Nat)(R:List (Nat × Nat))(l:List Nat)(v5 v16:Value)(wr:World):Prop:=∃(i:Nat) (xs:List SideL),i≤l.length∧v16=.int .i64 i∧Hid (SiAt wr w1 gS R l i v5 xs)
structure SdAt (wq wr:World) (gS:Nat) (R:List (Nat × Nat)) (l:List Nat) (i at' k:Nat) (v8:Value) (s:List Nat):Prop where
 own:GOwn encI 1 3 wq wr.heap.size v8 s
 seen:ArrT wq gS 3 (seenV (markB R l i s) l.length)
 sd:Sd R l i at' k s
 world:wr.grownBy wq (some gS)
theorem SdAt.over{wp:World}(h:SdAt wq wr gS R l i at' k v8 s)(hb:Be wq wp):SdAt wp wr gS R l i at' k v8 s:=
 ⟨h.own.over hb,h.seen.over hb,h.sd,grown_belowS h.world hb⟩
theorem SdAt.go{k':Nat}(h:SdAt wq wr gS R l i at' k v8 s)(hs:Sd R l i at' k' s):SdAt wq wr gS R l i at' k' v8 s:=
 ⟨h.own,h.seen,hs,h.world⟩
structure SmAt (wq wr:World) (gS:Nat) (R:List (Nat × Nat)) (l:List Nat) (i at' k:Nat) (v8:Value) (s:List Nat):Prop where
 own:GOwn encI 1 3 wq wr.heap.size v8 s
 seen:ArrT wq gS 3 (seenV (markB R l i (s++[k])) l.length)
 sd:Sd R l i at' (k+1) (s++[k])
 world:wr.grownBy wq (some gS)
theorem SdAt.mark{n1:Nat}(h:SdAt wq wr gS R l i at' k v8 s)(hg:gS<wr.heap.size)(_:n1≤wr.heap.size)(hs:Sd R l i at' (k+1) (s++[k])):SmAt (wq.setCell ⟨gS,k,none⟩ (.int .i64 1)) wr gS R l i at' k v8 s:=by refine⟨own_set h.own (fun q=>by have:=gown_low h.own q;omega) _ _,?_,hs,gtr h.world (gsc _ _ _)⟩;have h9:=h.seen.set k (.int .i64 1);rw [seenV_set (S':=markB R l i (s++[k])) (fun q=>mark_snoc q)] at h9;exact h9
theorem SmAt.found{w9:World}{v9:Value}(h:SmAt wq wr gS R l i at' k v8 s)(ho:GOwn encI 1 3 w9 wr.heap.size v9 (s++[k]))(hg:wq.grownBy w9 v8.ownBlock)(hgs:gS<wr.heap.size):SdAt w9 wr gS R l i at' (k+1) v9 (s++[k]):=by
 refine⟨ho,h.seen.kept hg (fun q => ?_),h.sd,?_⟩
 · have:=gown_low h.own q.symm;omega
 cases hv:v8.ownBlock with
 | none=>rw [hv] at hg;exact⟨hg.os.trans h.world.os,hg.tape.trans h.world.tape,hg.output.trans h.world.output,Nat.le_trans h.world.size hg.size,fun q hq hn=>(hg.block q (Nat.lt_of_lt_of_le hq h.world.size) (by intro e;cases e)).trans (h.world.block q hq hn)⟩
 | some g2=>rw [hv] at hg;exact grown_far h.world (gown_low h.own hv) hg
theorem iown_more(h:w.ownsRow B 3 1 v (s.length+1) (s.flatMap encI++encI k)):∃(p:Option Addr) (c:Nat),v=.slice p (s++[k]).length c∧GOwn encI 1 3 w B v (s++[k]):=by have h2:=GOwn.snoc (x:=k) h;obtain⟨a,cap,e,_⟩:=irow_at h2.row;exact⟨a,cap,e,h2⟩
theorem near_lead(R:List (Nat × Nat))(i j:Nat):nearB R i j=(leadB R i j || leadB R j i):=rfl
theorem side_pair(R:List (Nat × Nat))(l:List Nat)(i:Nat):(sideM R l i).Pairwise (· < ·):=by unfold sideM;exact(List.pairwise_lt_range).filter _
theorem heads_few(R:List (Nat × Nat))(l:List Nat)(i:Nat):(headsM R l i).length≤i:=by unfold headsM;exact Nat.le_trans (List.length_filter_le _ _) (by rw [List.length_range];exact Nat.le_refl _)
theorem own_baseS{B':Nat}{e:TypeId}{xs:List Value}(h:w.ownsRow B e sz v n xs)(hB:B'≤B):w.ownsRow B' e sz v n xs:=by refine⟨h.1,h.2.imp id ?_⟩;rintro⟨b,cap,cur,h1,h2,h3⟩;exact⟨b,cap,cur,h1,Nat.le_trans hB h2,h3⟩
theorem own_byB{α β:Type}{enc:α→List Value}{enc':β→List Value}{sz':Nat}{e e':TypeId}{w':World}{B':Nat}{v':Value}{xs:List α}{ys:List β}(h:GOwn enc sz e w B v xs)(h':GOwn enc' sz' e' w B' v' ys)(hn:e≠e')(hgw:w.grownBy w' v'.ownBlock):GOwn enc sz e w' B v xs:=by
 refine own_grown h hgw ?_;rcases h.2 with⟨rfl,_⟩|⟨g,cap,cur,rfl,_,hg,_⟩
 · exact .inl rfl
 rcases h'.2 with⟨rfl,_⟩|⟨g',cap',cur',rfl,_,hg',_⟩
 · exact .inr (fun q=>by cases q)
 refine .inr (fun q => ?_);simp only [Value.ownBlock,Option.some.injEq] at q;subst q;rw [hg] at hg';simp only [Option.some.injEq,Obj.cells.injEq] at hg';exact hn hg'.2.1
def SdRel(wr:World)(gS:Nat)(R:List (Nat × Nat))(l:List Nat)(i:Nat)(v8 v9:Value)(wq:World):Prop:=∃(at' c:Nat) (p:Option Addr) (s:List Nat),v9=.int .i64 at'∧at'≤s.length∧v8=.slice p s.length c∧Hid (SdAt wq wr gS R l i at' 0 v8 s)
def SkRel(wr:World)(gS:Nat)(R:List (Nat × Nat))(l:List Nat)(i at':Nat)(v8 v37:Value)(wq:World):Prop:=∃(k c:Nat) (p:Option Addr) (s:List Nat),v37=.int .i64 k∧k≤l.length∧at'<s.length∧v8=.slice p s.length c∧Hid (SdAt wq wr gS R l i at' k v8 s)
attribute [local irreducible] sideM headsM seenB markB headB nearB leadB seenV
theorem bsides_any(r n:Nat)(R:List (Nat × Nat))(v:Value)(l:List Nat)(w:World)(h:RelAt w r n R)(hv:GRow encI 1 w v l)(hl:∀ i∈l,i≤1000000)(hn:l.length≤1000000)(h0:0<l.length) :
  Calls Tryz.prog 247 #[.pointer (some ⟨r,0,none⟩),v] w (SidesRes w (sidesM R l)):=by
 obtain⟨a,cap,rfl,h1,h2,hc⟩:=irow_at hv;unfold maxLen at h2;obtain⟨b,off,rfl,sb,hcb⟩:=hc.resolve_left (by omega);obtain⟨m,hmm⟩:∃ m,m=l.length:=⟨_,rfl⟩;have HC:=Lh hcb;have HR:=Lh h;have HL:=Lh hl;have HZ:=Lh (seenV_zero m);have hq:8*m≤281474976710656:=by omega
 have hmx:m≤maxLen:=by unfold maxLen;omega
 rw [← hmm] at h1 hn h0 ⊢;have HM:=Lh hmm;clear hv hcb h hl hc hmm;go_enter Tryz.func247,Tryz.ntmps247;go_upto_region 3 with(at_make;refine wpList_make_zeros slzIntE rfl _ _ rfl w.heap.size m _ rfl rfl rfl hq hmx (Nat.le_refl _) ?_;intro w1 ho1 hg1)
 have HB1:=Lh (grown_over' hg1 (fun g hg=>by cases hg));obtain⟨hA,_⟩:=own_full ho1;obtain⟨gS,hg⟩:∃ g,g=w.heap.size:=⟨_,rfl⟩;rw [← hg] at hA ⊢;rw [← HZ.o] at hA;have HA:=Lh hA;have hgl:w.heap.size≤gS:=by omega
 have hs1:=hA.arr.lt;clear hA ho1 hg1 hg;have HS0:Hid (SiAt w1 w1 gS R l 0 (.slice none 0 0) []):=Lh ⟨gown_nil _ _,fun x hx=>absurd hx (List.not_mem_nil),by unfold headsM;rfl,(by
  have e:seenB R l 0=fun _=>false:=by funext k;unfold seenB headsM;rfl
  rw [e,← HM.o];exact HA.o),⟨rfl,rfl,rfl,Nat.le_refl _,fun _ _ _=>rfl⟩⟩
 go_wp2;go_loopw [5,16] (fun v5 v16 wr=>SiRel w1 gS R l v5 v16 wr) (fun _ v16 _=>m - (intOf v16).toNat)
 case atStart=>exact⟨0,[],by omega,rfl,HS0⟩
 obtain⟨i,xs,hi,rfl,HI⟩:=hrel;rename World=>wr;have sg:=HI.o.seen.arr.lt
 by_cases hlt:i<m
 rotate_left
 ·
  obtain rfl:i=m:=by have:=HM.o;omega
  have HF:Hid (GOwn encSd 1 160 wr w.heap.size u5 xs∧(∀ x∈xs,GRow encI 1 wr x.v x.s)∧xs.map (·.s)=sidesM R l∧Be w wr):=Lh ⟨HI.o.out.base HB1.o.size,fun x hx=>(HI.o.rows x hx).row,(by rw [HI.o.bare];unfold sidesM;rw [HM.o]),HB1.o.grown HI.o.world HB1.o.size (fun k hk=>by cases hk;exact hgl)⟩;go_wp2;go_ret;exact⟨_,xs,rfl,HF.o⟩
 have c0:=HI.o.seen.arr.cell (seenV_get (S:=seenB R l i) (n:=l.length) (k:=i) (by rw [← HM.o];exact hlt));rw [seen_head] at c0;cases hh:headB R l i with
 | false =>
  have HH:=Lh hh;have c1:wr.cell? ⟨gS,i,none⟩=some (.int .i64 1):=by rw [c0,hh];rfl
  have HI2:Hid (SiAt wr w1 gS R l (i+1) u5 xs):=Lh ⟨HI.o.out,HI.o.rows,(by rw [HI.o.bare,heads_succ,HH.o];simp),(by rw [seen_next_no HH.o];exact HI.o.seen),HI.o.world⟩;clear c0 hh;go_wp2;go_roundw
  case rel=>exact⟨i+1,xs,by rw [← HM.o];exact hlt,by go_num,HI2⟩
  simp [intOf];omega
 | true =>
  have HH:=Lh hh;have c1:wr.cell? ⟨gS,i,none⟩=some (.int .i64 0):=by rw [c0,hh];rfl
  clear c0 hh;have f1:=HI.o.seen.arr.free i;have ez:(wr.setCell ⟨gS,i,none⟩ (.int .i64 1)).heap.size=wr.heap.size:=by simp
  have HW2:Hid (SdAt ((wr.setCell ⟨gS,i,none⟩ (.int .i64 1)).alloc (.cells #[.int .i64 i] 3)) wr gS R l i 0 0 (.slice (some ⟨wr.heap.size,0,none⟩) [i].length 1) [i]):=Lh ⟨(by
    have h9:=own_lit28s (enc:=encI) (sz:=1) (wr.setCell ⟨gS,i,none⟩ (.int .i64 1)) 3 [i] wr.heap.size rfl (by show 1≤maxLen;unfold maxLen;omega) (by rw [ez];exact Nat.le_refl _);rw [ez] at h9;exact h9),(by
    have h9:=(HI.o.seen.set i (.int .i64 1)).over (bnew (.cells #[.int .i64 i] 3));rw [seenV_set (S':=markB R l i [i]) (fun q=>by have:=mark_snoc (R:=R) (l:=l) (i:=i) (k:=i) (s:=[]) q;rw [List.nil_append] at this;rw [this];unfold markB;simp)] at h9;exact h9),sd_start (by rw [← HM.o];exact hlt),grown_belowS (gsc _ _ _) (bnew _)⟩
  have hil:i<l.length:=by rw [← HM.o];exact hlt
  go_upto_region 9 with fail;generalize (wr.setCell ⟨gS,i,none⟩ (.int .i64 1)).alloc (.cells #[.int .i64 i] 3)=w2 at *;clear c1 sg f1;go_wp2;go_loopw [8,9] (fun v8 v9 wq=>SdRel wr gS R l i v8 v9 wq) (fun _ v9 _=>m - (intOf v9).toNat)
  case atStart=>exact⟨0,1,some ⟨wr.heap.size,0,none⟩,[i],rfl,by simp,rfl,HW2⟩
  obtain⟨at',c,p,s,rfl,hat,rfl,HD⟩:=hrel;rename World=>wq;have hsl:=sd_len HD.o.sd;rw [← HM.o] at hsl
  by_cases hlt2:at'<s.length
  rotate_left
  ·
   obtain rfl:at'=s.length:=(by omega);have hsp:0<s.length:=List.length_pos_of_mem HD.o.sd.self;obtain⟨g8,c8,e8,hA8⟩:=own_at (show World.ownsRow _ _ _ _ _ _ _ from HD.o.own) (by omega);obtain⟨rfl,hcc,rfl⟩:=Value.slice.inj e8;clear hcc e8;have hg8:wr.heap.size≤g8:=gown_low HD.o.own rfl;have HSE:Hid (∀ x,x∈sideM R l i↔x∈s):=Lh fun x=>mem_sideM.trans (sd_end HD.o.sd x).symm;have HSP:Hid ((sideM R l i).Pairwise (· < ·)):=Lh (side_pair R l i);have HA8:=Lh hA8;have hgr:gS<wr.heap.size:=Nat.lt_of_lt_of_le hs1 HI.o.world.size;have hb1r:=HI.o.world.size;clear hA8;go_wp2_with fail;refine(sortI_any HA8.o (by omega) HD.o.sd.nodup HSP.o HSE.o).mono ?_;rintro e w4 ⟨rfl,hA4,hg4⟩;have hsl4:(sideM R l i).length=s.length:=Nat.le_antisymm (nodup_lenN (HSP.o.imp fun h=>Nat.ne_of_lt h) fun x hx=>(HSE.o x).1 hx) (nodup_lenN HD.o.sd.nodup fun x hx=>(HSE.o x).2 hx);have HW4:Hid (wr.grownBy w4 (some gS)):=Lh (grown_far HD.o.world hg8 hg4);have HO4:Hid (GOwn encI 1 3 w4 w1.heap.size (.slice (some ⟨g8,0,none⟩) s.length c) (sideM R l i)):=Lh (by have h9:=hA4.own;unfold GOwn;rw [hsl4];exact own_baseS h9 hb1r);have HSn4:Hid (ArrT w4 gS 3 (seenV (seenB R l (i+1)) l.length)):=Lh (by have h9:=HD.o.seen.kept hg4 (fun q=>by cases q;omega);rw [show markB R l i s=seenB R l (i+1) from funext fun q=>mark_end HH.o HD.o.sd q] at h9;exact h9);have HX4:Hid (GOwn encSd 1 160 w4 w1.heap.size u5 xs):=Lh (own_grown HI.o.out HW4.o (.inr fun q=>by have:=gown_low HI.o.out q;omega));have HR4:Hid (∀ x∈xs,GOwn encI 1 3 w4 w1.heap.size x.v x.s):=Lh fun x hx=>own_grown (HI.o.rows x hx) HW4.o (.inr fun q=>by have:=gown_low (HI.o.rows x hx) q;omega);have hxl:xs.length≤m:=(by have h9:=congrArg List.length HI.o.bare;rw [List.length_map,List.length_map] at h9;have:=heads_few R l i;omega);have hN4:xs.length+1≤1099511627776:=(by omega);have hB4:w1.heap.size≤w4.heap.size:=Nat.le_trans hb1r HW4.o.size;clear hA4 hg4;go_wp2_with (at_builtin;refine apD slSide rfl _ _ rfl w1.heap.size _ _ (drf _) 1 _ _ _ HX4.o rfl rfl rfl rfl hN4 (by decide) hB4 ?_;intro v9 w9 ho9 hg9);go_roundw
   case rel =>
    refine⟨i+1,xs++[⟨sideM R l i,.slice (some ⟨g8,0,none⟩) s.length c⟩],by rw [← HM.o];exact hlt,by go_num,Lh ⟨GOwn.snoc (x:=(⟨sideM R l i,.slice (some ⟨g8,0,none⟩) s.length c⟩:SideL)) ho9,fun x hx => ?_,?_,HSn4.o.grown HX4.o (by decide) hg9,?_⟩⟩
    ·
     rcases List.mem_append.1 hx with hx|hx
     · exact own_byB (HR4.o x hx) HX4.o (by decide) hg9
     rw [List.mem_singleton.1 hx];exact own_byB HO4.o HX4.o (by decide) hg9
    · rw [List.map_append,HI.o.bare,heads_succ,HH.o];simp
    have hw4:w1.grownBy w4 (some gS):=gtr HI.o.world HW4.o;cases hv:u5.ownBlock with
    | none=>rw [hv] at hg9;exact⟨hg9.os.trans hw4.os,hg9.tape.trans hw4.tape,hg9.output.trans hw4.output,Nat.le_trans hw4.size hg9.size,fun q hq hn=>(hg9.block q (Nat.lt_of_lt_of_le hq hw4.size) (by intro e;cases e)).trans (hw4.block q hq hn)⟩
    | some g2=>rw [hv] at hg9;exact grown_far hw4 (gown_low HX4.o hv) hg9
   simp [intOf];omega
  go_wp2;go_loopw [8,37] (fun v8 v37 wp=>SkRel wr gS R l i at' v8 v37 wp) (fun _ v37 _=>m - (intOf v37).toNat)
  case atStart=>exact⟨0,c,p,s,rfl,Nat.zero_le _,hlt2,rfl,HD⟩
  obtain⟨k,c2,p2,s2,rfl,hk,hat2,rfl,HE⟩:=hrel;rename World=>wp;rw [← HM.o] at hk;have hsl2:=sd_len HE.o.sd;rw [← HM.o] at hsl2
  by_cases hlt3:k<m
  rotate_left
  ·
   obtain rfl:k=m:=(by omega);have HE2:Hid (SdAt wp wr gS R l i (at'+1) 0 (.slice p2 s2.length c2) s2):=Lh ⟨HE.o.own,HE.o.seen,sd_next (by have:=HE.o.sd;rwa [HM.o] at this),HE.o.world⟩;go_wp2;go_roundw
   case rel=>exact⟨at'+1,c2,p2,s2,by go_num,hat2,rfl,HE2⟩
   simp [intOf];omega
  obtain⟨u,hu⟩:=gol hat2;have hul:=(HE.o.sd.near u (List.mem_of_getElem? hu)).right;obtain⟨xu,hxu⟩:=gol hul;obtain⟨xk,hxk⟩:=gol (xs:=l) (i:=k) (by rw [← HM.o];exact hlt3);have hgu:l.getD u 0=xu:=by rw [List.getD_eq_getElem?_getD,hxu];rfl
  have hgk:l.getD k 0=xk:=by rw [List.getD_eq_getElem?_getD,hxk];rfl
  have hxul:=HL.o xu (List.mem_of_getElem? hxu);have hxkl:=HL.o xk (List.mem_of_getElem? hxk);have hbw:Be w wp:=HB1.o.grown (gtr HI.o.world HE.o.world) HB1.o.size (fun k hk=>by cases hk;exact hgl);have HRp:=Lh (HR.o.over hbw);obtain⟨sl0,l0⟩:=HC.o u xu hxu wp hbw;have l1:=(HC.o k xk hxk wp hbw).2;obtain⟨p3,c3,e3,z1,z2,hcs⟩:=irow_at HE.o.own.row;cases e3
  unfold maxLen at z2;obtain⟨b2,off2,rfl,sb2,hcs2⟩:=hcs.resolve_left (by omega);obtain⟨_,m0⟩:=hcs2 at' u hu wp (Below.refl _ _);have d0:=HE.o.seen.arr.cell (seenV_get (S:=markB R l i s2) (n:=l.length) (k:=k) (by rw [← HM.o];exact hlt3));have sgp:=HE.o.seen.arr.lt;have hgr:gS<wr.heap.size:=Nat.lt_of_lt_of_le hs1 HI.o.world.size;have HHa:=Lh (rchHas_any r n xu xk R _ (HRp.o.over (Below.refl _ _).drew) hxul);have HHb:=Lh (rchHas_any r n xk xu R _ (HRp.o.over (Below.refl _ _).drew) hxkl);have HU:=Lh hu;have HNu:Hid (nearB R (l.getD u 0) (l.getD k 0)=(leadB R xu xk || leadB R xk xu)):=Lh (by rw [hgu,hgk];exact near_lead R xu xk);have hkl:k<l.length:=by rw [← HM.o];exact hlt3
  have hum:u<m:=by rw [HM.o];exact hul
  clear hu hxu hxk hgu hgk hcs hcs2;cases hmk:markB R l i s2 k with
  | true =>
   have HN:Hid (Sd R l i at' (k+1) s2):=Lh (sd_no HE.o.sd HU.o (by
    cases hnn:nearB R (l.getD u 0) (l.getD k 0) with
    | false=>exact .inl rfl
    | true =>rw [mark_not HH.o HE.o.sd HU.o hkl hnn] at hmk;exact .inr (List.contains_iff_mem.1 hmk)))
   rw [hmk] at d0;have d1:wp.cell? ⟨gS,k,none⟩=some (.int .i64 1):=d0;clear d0 hmk HHa HHb;go_upto_region 15 with fail;refine wlo 35 fun hcur=>?_;(repeat refine lxq ?_);refine lxe ?_;go_wp2;go_roundw
   case rel=>exact⟨k+1,c2,_,s2,by go_num,hkl,hat2,rfl,Lh (SdAt.go (HE.o.over hcur) HN.o)⟩
   simp [intOf];omega
  | false =>
   have hks:k ∉ s2:=(by intro hm;unfold markB at hmk;rw [List.contains_iff_mem.2 hm,Bool.or_true] at hmk;cases hmk);rw [hmk] at d0;have d1:wp.cell? ⟨gS,k,none⟩=some (.int .i64 0):=d0;clear d0 hmk;cases ha:leadB R xu xk with
   | true =>
    rw [ha] at HHa HNu;have HN:Hid (Sd R l i at' (k+1) (s2++[k])):=Lh (sd_yes HE.o.sd HU.o HNu.o hkl hks);clear hks HHb ha;go_upto_region 15 with fail;refine wlo 35 fun hcur=>?_;(repeat(first|refine lxq ?_|(refine lxl rfl ?_;go_wp2_with (first|(go_at_call 223;(with_reducible refine(HHa.o).mono ?_);rintro e w' ⟨rfl,rfl⟩));refine⟨iov hcur,?_⟩)));refine lxe ?_;have HEw:=Lh (HE.o.over hcur);generalize wp.drew=wo at *;have d0:=HEw.o.seen.arr.cell (seenV_get (S:=markB R l i s2) (n:=l.length) (k:=k) hkl);have d2:=HEw.o.seen.arr.free k;have sgo:=HEw.o.seen.arr.lt;have HEm:=Lh (HEw.o.mark hgr (show w1.heap.size≤wr.heap.size from HI.o.world.size) HN.o);clear hcur;go_upto_region 17 with fail;generalize wo.setCell ⟨gS,k,none⟩ (.int .i64 1)=w3 at *;clear d0 d2 sgo;have hN:s2.length+1≤1099511627776:=(by omega);have hB3:=HEm.o.world.size;have HO3:=Lh HEm.o.own;go_wp2_with (at_builtin;refine apD slIntI rfl _ _ rfl wr.heap.size _ _ (drf _) 1 _ _ _ HO3.o rfl rfl rfl rfl hN (by decide) hB3 ?_;intro v9 w9 ho9 hg9);obtain⟨p9,c9,e9,hO9⟩:=iown_more ho9;subst e9;go_roundw
    case rel=>exact⟨k+1,c9,p9,s2++[k],by go_num,hkl,by rw [List.length_append];omega,rfl,Lh (HEm.o.found hO9 hg9 hgr)⟩
    simp [intOf];omega
   | false =>
    cases hb:leadB R xk xu with
    | true =>
     rw [ha] at HHa HNu;rw [hb] at HHb HNu;have HN:Hid (Sd R l i at' (k+1) (s2++[k])):=Lh (sd_yes HE.o.sd HU.o HNu.o hkl hks);clear hks ha hb;go_upto_region 15 with fail;refine wlo 35 fun hcur=>?_;(repeat(first|refine lxq ?_|(refine lxl rfl ?_;go_wp2_with (first|(go_at_call 223;(with_reducible refine(HHa.o).mono ?_);rintro e w' ⟨rfl,rfl⟩)|(go_at_call 223;(with_reducible refine(HHb.o).mono ?_);rintro e w' ⟨rfl,rfl⟩));refine⟨iov hcur,?_⟩)));refine lxe ?_;have HEw:=Lh (HE.o.over hcur);generalize wp.drew=wo at *;have d0:=HEw.o.seen.arr.cell (seenV_get (S:=markB R l i s2) (n:=l.length) (k:=k) hkl);have d2:=HEw.o.seen.arr.free k;have sgo:=HEw.o.seen.arr.lt;have HEm:=Lh (HEw.o.mark hgr (show w1.heap.size≤wr.heap.size from HI.o.world.size) HN.o);clear hcur;go_upto_region 17 with fail;generalize wo.setCell ⟨gS,k,none⟩ (.int .i64 1)=w3 at *;clear d0 d2 sgo;have hN:s2.length+1≤1099511627776:=(by omega);have hB3:=HEm.o.world.size;have HO3:=Lh HEm.o.own;go_wp2_with (at_builtin;refine apD slIntI rfl _ _ rfl wr.heap.size _ _ (drf _) 1 _ _ _ HO3.o rfl rfl rfl rfl hN (by decide) hB3 ?_;intro v9 w9 ho9 hg9);obtain⟨p9,c9,e9,hO9⟩:=iown_more ho9;subst e9;go_roundw
     case rel=>exact⟨k+1,c9,p9,s2++[k],by go_num,hkl,by rw [List.length_append];omega,rfl,Lh (HEm.o.found hO9 hg9 hgr)⟩
     simp [intOf];omega
    | false =>
     rw [ha] at HHa HNu;rw [hb] at HHb HNu;have HN:Hid (Sd R l i at' (k+1) s2):=Lh (sd_no HE.o.sd HU.o (.inl HNu.o));clear hks ha hb;go_upto_region 15 with fail;refine wlo 35 fun hcur=>?_;(repeat(first|refine lxq ?_|(refine lxl rfl ?_;go_wp2_with (first|(go_at_call 223;(with_reducible refine(HHa.o).mono ?_);rintro e w' ⟨rfl,rfl⟩)|(go_at_call 223;(with_reducible refine(HHb.o).mono ?_);rintro e w' ⟨rfl,rfl⟩));refine⟨iov hcur,?_⟩)));refine lxe ?_;go_wp2;go_roundw
     case rel=>exact⟨k+1,c2,_,s2,by go_num,hkl,hat2,rfl,Lh (SdAt.go (HE.o.over hcur) HN.o)⟩
     simp [intOf];omega
end
section
variable{xs:List BlL}{lo:Nat}{v:Value}{w:World}
def Fit(lo:Nat)(w:World)(g:Option Nat)(b:Nat):Prop:=lo≤b∧b<w.heap.size∧some b≠g
structure BX (w:World) (lo:Nat) (v:Value) (xs:List BlL):Prop where
 own:GOwn encBl 3 251 w lo v xs
 ins:BIns (Fit lo w v.ownBlock) w xs
theorem bx_nil(w:World)(lo:Nat):BX w lo (.slice none 0 0) []:=⟨gown_nil _ _,bins_nil⟩
theorem BX.over{w':World}(h:BX w lo v xs)(hb:Be w w'):BX w' lo v xs:=
 ⟨h.own.over hb,BIns.mono (fun b hb'=>⟨hb'.1,Nat.lt_of_lt_of_le hb'.2.1 hb.size,hb'.2.2⟩) (fun _ _ _ h=>h.over hb) xs h.ins⟩
theorem grow_keptB{w':World}{g:Option Nat}(hg:w.grownBy w' g)(hb:∀ b,v.ownBlock=some b→some b≠g)(h:GRow encBl 3 w v xs):GRow encBl 3 w' v xs:=by obtain⟨h0,a,cap,rfl,h1,h2,h3,h4⟩:=h;refine⟨h0,a,cap,rfl,h1,h2,h3,fun hp => ?_⟩;obtain⟨b,off,rfl,hb2,hc⟩:=h4 hp;have hne:some b≠g:=hb b rfl;refine⟨b,off,rfl,Nat.lt_of_lt_of_le hb2 hg.size,fun j u hu => ?_⟩;rw [World.cell?_of_block (w:=w) (w':=w') (a:=⟨b,off+j,none⟩) (hg.block b hb2 hne)];exact hc j u hu
theorem BX.snoc{w9:World}{lo0:Nat}{v9:Value}{x:BlL}(h:BX w lo v xs)(hx:BIn (fun b=>lo0≤b∧b<w.heap.size∧some b≠v.ownBlock) w x)(hlo:lo≤lo0)
  (ho:GOwn encBl 3 251 w9 lo v9 (xs++[x])) (hg:w.grownBy w9 v.ownBlock) (hk:v9.ownBlock=v.ownBlock∨∃ k,v9.ownBlock=some k∧w.heap.size≤k):BX w9 lo v9 (xs++[x]):=by
 have hne:∀ b,b<w.heap.size→some b≠v.ownBlock→some b≠v9.ownBlock:=by
  intro b hb hn e;rcases hk with h1|⟨k,h1,h2⟩
  · exact hn (e.trans h1)
  rw [h1] at e;cases e;omega
 refine⟨ho,bins_append ?_ (bins_one ?_)⟩
 · exact BIns.mono (fun b hb=>⟨hb.1,Nat.lt_of_lt_of_le hb.2.1 hg.size,hne b hb.2.1 hb.2.2⟩) (fun u us hu hr=>grow_keptB hg (fun b hb=>(hu b hb).2.2) hr) xs h.ins
 exact BIn.mono (fun b hb=>⟨by have:=hb.1;omega,Nat.lt_of_lt_of_le hb.2.1 hg.size,hne b hb.2.1 hb.2.2⟩) (fun u us hu hr=>grow_keptB hg (fun b hb=>(hu b hb).2.2) hr) x hx
theorem fit_own(h:BX w lo v xs){b:Nat}(hb:v.ownBlock=some b):lo≤b∧b<w.heap.size:=⟨gown_low h.own hb,gown_size h.own hb⟩
theorem BX.block(h:BX w lo v xs)(k n:Int):BIn (fun b=>lo≤b∧b<w.heap.size) w (.mk k n v xs):=by refine bin_mk.2 ⟨h.own.row,?_,fun b hb=>fit_own h hb,BIns.mono (fun b hb=>⟨hb.1,hb.2.1⟩) (fun _ _ _ h=>h) xs h.ins⟩;rcases h.own.2 with⟨rfl,_⟩|⟨g,cap,cur,rfl,_⟩ <;> rfl
theorem BIn.weak{A A':Nat→Prop}{x:BlL}(h:BIn A w x)(hA:∀ b,A b→A' b):BIn A' w x:=BIn.mono hA (fun _ _ _ h=>h) x h
def PcRes(w:World)(m:BlkM)(e:Ending)(w':World):Prop:=∃(k n:Int) (sv:Value) (s:List BlL),e=.returned (.agg #[.int .i64 k,.int .i64 n,sv])∧bareB (.mk k n sv s)=m∧BIn (fun b=>w.heap.size≤b∧b<w'.heap.size) w' (.mk k n sv s)∧Be w w'
def OfRes(w:World)(ms:List BlkM)(e:Ending)(w':World):Prop:=∃ v xs,e=.returned v∧BX w' w.heap.size v xs∧bareL xs=ms∧Be w w'
end
section
variable{R:List (Nat × Nat)}{l s:List Nat}
theorem rowBlk:RowT Tryz.prog 251 3:=rowT_of Tryz.underlying251 rfl (by kernel_rfl)
theorem things_nil(l:List Nat):thingsM l []=[]:=rfl
attribute [local irreducible] sidesM pieceM blkM thingsM
theorem piece_one(R:List (Nat × Nat))(F:List Nat→List BlkM)(i:Nat):pieceM R F [i]=lineB i:=by unfold pieceM;rw [if_pos (show [i].length=1 from rfl)];rfl
theorem piece_knot{F:List Nat→List BlkM}(h1:l.length≠1)(h2:(sidesM R l).length=1):pieceM R F l=.mk 3 0 (l.map lineB):=by unfold pieceM;rw [if_neg h1,if_pos h2]
theorem piece_fork{F:List Nat→List BlkM}(h1:l.length≠1)(h2:(sidesM R l).length≠1):pieceM R F l=.mk 2 0 ((sidesM R l).map fun s=>.mk 4 0 (F (thingsM l s))):=by unfold pieceM;rw [if_neg h1,if_neg h2]
theorem bpiece_one(r:Nat)(R:List (Nat × Nat))(F:List Nat→List BlkM)(v:Value)(i:Nat)(w:World)(hv:GRow encI 1 w v [i]) :
  Calls Tryz.prog 187 #[.pointer (some ⟨r,0,none⟩),v] w (PcRes w (pieceM R F [i])):=by obtain⟨a,cap,rfl,h1,h2,hc⟩:=irow_at hv;unfold maxLen at h2;obtain⟨b,off,rfl,sb,hcb⟩:=hc.resolve_left (by simp);have HA:=Lh (anw w #[.int .i64 0,.int .i64 0,.slice none 0 0] 251);have HB:=Lh (bnew (w:=w) (.cells #[.int .i64 0,.int .i64 0,.slice none 0 0] 251));obtain⟨sl,x0'⟩:=hcb 0 i rfl (w.alloc (.cells #[.int .i64 0,.int .i64 0,.slice none 0 0] 251)) (bnew _);have x0:(w.alloc (.cells #[.int .i64 0,.int .i64 0,.slice none 0 0] 251)).cell? ⟨b,off,none⟩=some (.int .i64 i):=x0';clear x0';have hP:=piece_one R F i;clear hv hcb hc;go_enter Tryz.func187,Tryz.ntmps187;go_upto_region 1 with fail;generalize w.alloc (.cells #[.int .i64 0,.int .i64 0,.slice none 0 0] 251)=w0 at *;obtain⟨z0,z1,z2,sz⟩:=HA.o.c3;have f0:=HA.o.free 0;have f1:=HA.o.free 1;have f2:=HA.o.free 2;have HPc:=Lh hP;clear hP;go_wp2_with fail;refine bodyPost_ret (v:=.agg #[.int .i64 1,.int .i64 i,.slice none 0 0]) (results_arr rowBlk rfl (((HA.o.set 0 _).set 1 _).set 2 _) rfl rfl) rfl ?_;exact⟨1,i,.slice none 0 0,[],rfl,(lineL_bare i).trans HPc.o.symm,lineL_in _ _ i,(((HB.o.setCell (p:=⟨w.heap.size,0,none⟩) (Nat.le_refl _) (.int .i64 1)).setCell (p:=⟨w.heap.size,1,none⟩) (Nat.le_refl _) (.int .i64 i)).setCell (p:=⟨w.heap.size,2,none⟩) (Nat.le_refl _) (.slice none 0 0))⟩
theorem sides_lt(hs:s∈sidesM R l){k:Nat}(hk:k∈s):k<l.length:=by unfold sidesM at hs;obtain⟨i,_,rfl⟩:=List.mem_map.1 hs;exact(mem_sideM.1 hk).right
theorem things_step{q u y:Nat}(hu:s[q]? = some u)(hy:l[u]? = some y):thingsM l (s.take (q+1))=thingsM l (s.take q)++[y]:=by unfold thingsM;rw [take_one hu,List.map_append,List.map_cons,List.map_nil,List.getD_eq_getElem?_getD,hy];rfl
theorem sides_few(R:List (Nat × Nat))(l:List Nat):(sidesM R l).length≤l.length:=by unfold sidesM;rw [List.length_map];exact heads_few R l l.length
theorem things_le(hl:∀ i∈l,i≤1000000)(hs:s∈sidesM R l):∀ i∈thingsM l s,i≤1000000:=by intro i hi;unfold thingsM at hi;obtain⟨k,hk,rfl⟩:=List.mem_map.1 hi;have:=sides_lt hs hk;rw [List.getD_eq_getElem?_getD,List.getElem?_eq_getElem this];exact hl _ (List.getElem_mem _)
theorem bare_len{ys:List BlL}{ss:List (List Nat)}{F:List Nat→BlkM}{j:Nat}(h:bareL ys=(ss.take j).map F):ys.length≤j:=by have:=congrArg List.length h;rw [bareL_map,List.length_map,List.length_map,List.length_take] at this;omega
structure FkAt (wr w2:World) (gb:Nat) (R:List (Nat × Nat)) (l:List Nat) (f:Nat) (xs:List SideL) (j:Nat) (p:Option Addr) (c:Nat) (ys:List BlL):Prop where
 box:ArrT wr gb 251 [.int .i64 2,.int .i64 0,.slice p ys.length c]
 sub:BX wr w2.heap.size (.slice p ys.length c) ys
 bare:bareL ys=((sidesM R l).take j).map fun s=>.mk 4 0 (blkM R f (thingsM l s))
 world:w2.grownBy wr (some gb)
def FkRel(w2:World)(gb:Nat)(R:List (Nat × Nat))(l:List Nat)(f:Nat)(xs:List SideL)(v31:Value)(wr:World):Prop:=∃(j:Nat) (p:Option Addr) (c:Nat) (ys:List BlL),j≤xs.length∧v31=.int .i64 j∧Hid (FkAt wr w2 gb R l f xs j p c ys)
def ThRel(wr:World)(l s:List Nat)(v9 v37:Value)(wq:World):Prop:=∃(q:Nat) (p:Option Addr) (c:Nat),q≤s.length∧v37=.int .i64 q∧v9=.slice p (thingsM l (s.take q)).length c∧Hid (GOwn encI 1 3 wq wr.heap.size (.slice p (thingsM l (s.take q)).length c) (thingsM l (s.take q)))∧Be wr wq
theorem bareL_snoc(ys:List BlL)(x:BlL):bareL (ys++[x])=bareL ys++[bareB x]:=by rw [bareL_map,bareL_map,List.map_append];rfl
theorem BX.set{w:World}{lo gb k:Nat}{v u:Value}{xs:List BlL}(h:BX w lo v xs)(hg:gb<lo):BX (w.setCell ⟨gb,k,none⟩ u) lo v xs:=by refine⟨own_set h.own (fun q=>by have:=gown_low h.own q;omega) _ _,?_⟩;exact BIns.mono (fun b hb=>⟨hb.1,by have:=hb.2.1;simpa using this,hb.2.2⟩) (fun us ys hu hr=>grow_keptB (gsc (g:=gb) w k u) (fun b hb e=>by cases e;have:=(hu _ hb).1;omega) hr) xs h.ins
theorem FkAt.step{wr wq w2 w5 w6:World}{gb:Nat}{f j:Nat}{xs:List SideL}{p p6:Option Addr}{c c6:Nat}{ys ys5:List BlL}{sv5:Value}
  (h:FkAt wr w2 gb R l f xs j p c ys) (hq:Be wr wq) (h5:Be wq w5) (hx:BX w5 wq.heap.size sv5 ys5) (hb5:bareL ys5=blkM R f (thingsM l s)) (hs:(sidesM R l)[j]? = some s) (hgb:gb<w2.heap.size) (hwr:w2.heap.size≤wr.heap.size)
  (ho:w6.ownsRow w2.heap.size 251 3 (.slice p6 (ys.length+1) c6) (ys.length+1) (ys.flatMap encBl++[.int .i64 4,.int .i64 0,sv5])) (hg:w5.grownBy w6 (Value.slice p ys.length c).ownBlock)
  (hv:(Value.slice p6 (ys.length+1) c6).ownBlock=(Value.slice p ys.length c).ownBlock∨∃ k,(Value.slice p6 (ys.length+1) c6).ownBlock=some k∧w5.heap.size≤k) :
  FkAt (w6.setCell ⟨gb,2,none⟩ (.slice p6 (ys.length+1) c6)) w2 gb R l f xs (j+1) p6 c6 (ys++[.mk 4 0 sv5 ys5]):=by
 have hsub:=(h.sub.over hq).over h5;have hlen:(ys++[BlL.mk 4 0 sv5 ys5]).length=ys.length+1:=by simp
 have hxin:BIn (fun b=>wq.heap.size≤b∧b<w5.heap.size∧some b≠(Value.slice p ys.length c).ownBlock) w5 (.mk 4 0 sv5 ys5):=
  BIn.weak (hx.block 4 0) fun b hb=>⟨hb.1,hb.2,fun e=>by
   have:=gown_size h.sub.own e.symm
   have:=hq.size
   omega⟩
 have hown:GOwn encBl 3 251 w6 w2.heap.size (.slice p6 (ys.length+1) c6) (ys++[.mk 4 0 sv5 ys5]):=GOwn.snoc (x:=BlL.mk 4 0 sv5 ys5) ho;have hnew:=BX.snoc hsub hxin (by have:=hq.size;omega) hown hg hv;have hbox:=((h.box.over hq).over h5).kept hg (fun e=>by have:=gown_low h.sub.own e.symm;omega);refine⟨?_,?_,?_,?_⟩
 · rw [hlen];exact hbox.set 2 _
 · rw [hlen];exact hnew.set hgb
 · rw [bareL_snoc,h.bare,take_one hs,List.map_append,List.map_cons,List.map_nil];congr 1;unfold bareB;rw [hb5]
 have hw:w2.grownBy w5 (some gb):=grown_belowS (grown_belowS h.world hq) h5;refine gtr ?_ (gsc _ _ _);cases hv2:(Value.slice p ys.length c).ownBlock with
 | none=>rw [hv2] at hg;exact⟨hg.os.trans hw.os,hg.tape.trans hw.tape,hg.output.trans hw.output,Nat.le_trans hw.size hg.size,fun q hq hn=>(hg.block q (Nat.lt_of_lt_of_le hq hw.size) (by intro e;cases e)).trans (hw.block q hq hn)⟩
 | some g2=>rw [hv2] at hg;exact grown_far hw (gown_low h.sub.own hv2) hg
theorem pc_store{w w2 w3:World}{x:BlL}{lo gz:Nat}(h:BIn (fun b=>lo≤b∧b<w2.heap.size) w2 x)(hg:w2.grownBy w3 (some gz))(hz:gz<lo)(hw:w.heap.size≤lo):BIn (fun b=>w.heap.size≤b∧b<w3.heap.size) w3 x:=
 BIn.mono (fun b hb=>⟨Nat.le_trans hw hb.1,Nat.lt_of_lt_of_le hb.2 hg.size⟩) (fun u us hu hr=>grow_keptB hg (fun b hb e=>by cases e;have:=(hu _ hb).1;omega) hr) x h
theorem bpiece_any(f r n:Nat)(R:List (Nat × Nat))(v:Value)(l:List Nat)(w:World)(h:RelAt w r n R)(hv:GRow encI 1 w v l)(hl:∀ i∈l,i≤1000000)(hn:l.length≤1000000)(h0:0<l.length)(hf:l.length≤f)
  (hOf:∀(t:List Nat) (tv:Value) (W:World),t.length<f→t.length≤1000000→(∀ i∈t,i≤1000000)→RelAt W r n R→GRow encI 1 W tv t→Calls Tryz.prog 116 #[.pointer (some ⟨r,0,none⟩),tv] W (OfRes W (blkM R f t))) :
  Calls Tryz.prog 187 #[.pointer (some ⟨r,0,none⟩),v] w (PcRes w (pieceM R (blkM R f) l)):=by
 by_cases hl1:l.length=1
 · obtain⟨i,rfl⟩:=List.length_eq_one_iff.1 hl1;exact bpiece_one r R _ v i w hv
 obtain⟨a,cap,rfl,h1,h2,hc⟩:=irow_at hv;have hV:=Lh hv;unfold maxLen at h2;have HC:=Lh hc;have HR:=Lh h;have HL:=Lh hl;have HOf:=Lh hOf;have HA:=Lh (anw w #[.int .i64 0,.int .i64 0,.slice none 0 0] 251);have HB:=Lh (bnew (w:=w) (.cells #[.int .i64 0,.int .i64 0,.slice none 0 0] 251));have g1:((l.length:Int) == 1)=false:=by rw [beq_eq_false_iff_ne];omega
 have H1:=Lh hl1;clear hv h hl hOf hc hl1;go_enter Tryz.func187,Tryz.ntmps187;go_upto_region 1 with fail;generalize hw0:w.alloc (.cells #[.int .i64 0,.int .i64 0,.slice none 0 0] 251)=w0 at *;have hwz:=hw0;clear hw0;try unfold Be at *
 generalize hgz:w.heap.size=gz at *;have HGZ:=Lh hgz;have hgz0:w0.heap.size=gz+1:=by rw [← hwz];simp [hgz]
 clear hwz;go_wp2_with fail;refine(bsides_any r n R _ l _ (HR.o.over (by unfold Be;rw [hgz];exact HB.o)) (hV.out.over (by unfold Be;rw [hgz];exact HB.o)) HL.o hn h0).mono ?_;rintro e w1 ⟨sv,xs,rfl,ho,hrw,hbare,hb1⟩;rw [hgz0] at ho;obtain⟨pa,ca,e1,n1,n2,hcx⟩:=ho.row.at encSd_len;subst e1;unfold maxLen at n2;have HX:=Lh ho;have HCX:=Lh hcx;have HRW:=Lh hrw;have HBR:=Lh hbare;have HB1:=Lh (bov HB.o (by rw [hgz0];omega) hb1);have HA1:=Lh (HA.o.over hb1);have hxl:xs.length=(sidesM R l).length:=by have:=congrArg List.length hbare;rwa [List.length_map] at this
 have hz1:gz<w1.heap.size:=HA1.o.lt;clear ho hrw hbare hb1 hcx;obtain⟨y0,y1,y2,sy⟩:=HA1.o.c3;have k0:=HA1.o.free 0;have k1:=HA1.o.free 1;have k2:=HA1.o.free 2
 by_cases hs1:xs.length=1
 ·
  have g2:((xs.length:Int) == 1)=true:=by rw [beq_iff_eq];omega
  have HPk:=Lh (piece_knot (F:=blkM R f) H1.o (hxl▸hs1));have HBw1:Hid (Be w w1):=Lh (by unfold Be;rw [HGZ.o];exact HB1.o);clear hs1 hxl;go_wp2_with fail;refine(bsome_any _ l _ (hV.out.over HBw1.o) hn).mono ?_;rintro e w2 ⟨v2,rfl,ho2,hb2⟩;obtain⟨p2,c2,e2,_,_,_⟩:=ho2.row.at encBl_len;rw [List.length_map] at e2;subst e2;have HO2:=Lh ho2;have HB2:=Lh (bov HB1.o (by omega) hb2);have HA2:=Lh (HA1.o.over hb2);have hz2:=hb2.size;clear ho2 hb2 y0 y1 y2 sy k0 k1 k2;obtain⟨y0,y1,y2,sy⟩:=HA2.o.c3;have k0:=HA2.o.free 0;have k1:=HA2.o.free 1;have k2:=HA2.o.free 2;go_wp2_with fail;refine bodyPost_ret (v:=.agg #[.int .i64 3,.int .i64 0,.slice p2 l.length c2]) (results_arr rowBlk rfl (((HA2.o.set 0 _).set 1 _).set 2 _) rfl rfl) rfl ?_;refine⟨3,0,.slice p2 l.length c2,l.map lineL,rfl,?_,?_,?_⟩
  · rw [HPk.o];unfold bareB;rw [lines_bare]
  · have h9:BX w2 w1.heap.size (.slice p2 l.length c2) (l.map lineL):=⟨HO2.o,lines_in _ _ _⟩;exact pc_store (gz:=gz) (h9.block 3 0) (gtr (gtr (gsc w2 0 _) (gsc _ 1 _)) (gsc _ 2 _)) hz1 (by rw [HGZ.o];omega)
  unfold Be;rw [HGZ.o];exact(((HB2.o.setCell (p:=⟨gz,0,none⟩) (Nat.le_refl _) (.int .i64 3)).setCell (p:=⟨gz,1,none⟩) (Nat.le_refl _) (.int .i64 0)).setCell (p:=⟨gz,2,none⟩) (Nat.le_refl _) (.slice p2 l.length c2))
 have g2:((xs.length:Int) == 1)=false:=by rw [beq_eq_false_iff_ne];omega
 have HPf:=Lh (piece_fork (F:=blkM R f) H1.o (hxl▸hs1));have HNs:Hid ((sidesM R l).length≠1):=Lh (hxl▸hs1);have HXL:=Lh hxl;clear hs1 hxl;go_upto_region 7 with fail;have HBx:=Lh (arrT_new w1 [.int .i64 2,.int .i64 0,.slice none 0 0] 251);have HN1:=Lh (bnew (w:=w1) (.cells #[.int .i64 2,.int .i64 0,.slice none 0 0] 251));have HA2:=Lh (HA1.o.over HN1.o);have HS2:Hid (w1.heap.size+1=(w1.alloc (.cells #[.int .i64 2,.int .i64 0,.slice none 0 0] 251)).heap.size):=Lh (by simp);generalize w1.alloc (.cells #[.int .i64 2,.int .i64 0,.slice none 0 0] 251)=w2 at *;clear y0 y1 y2 sy k0 k1 k2;obtain⟨gb,hgb⟩:∃ gb,gb=w1.heap.size:=⟨_,rfl⟩;unfold Be at HN1;rw [← hgb] at HBx HS2 HN1 hz1 ⊢;have HGB:=Lh hgb;clear hgb;have HF0:Hid (FkAt w2 w2 gb R l f xs 0 none 0 []):=Lh ⟨HBx.o,bx_nil _ _,by rw [List.take_zero];rfl,World.grownBy.refl _ _⟩;go_wp2;go_loopw [8,9,11,31] (fun _ _ _ v31 wr=>FkRel w2 gb R l f xs v31 wr) (fun _ _ _ v31 _=>xs.length - (intOf v31).toNat)
 case atStart=>exact⟨0,none,0,[],Nat.zero_le _,rfl,HF0⟩
 obtain⟨j,p,c,ys,hj,rfl,HF⟩:=hrel;rename World=>wr;have HBr:Hid (Be w1 wr):=Lh (by have h9:=HN1.o;rw [HGB.o] at h9;exact h9.grown HF.o.world h9.size (fun k hk=>by cases hk;rw [HGB.o];exact Nat.le_refl _));have HBz:Hid (Below gz w wr):=Lh (bov HB1.o (by have:=HGB.o;omega) HBr.o)
 by_cases hlt:j<xs.length
 rotate_left
 ·
  obtain rfl:j=xs.length:=by omega
  have HAr:=Lh (HA1.o.over HBr.o);have HBA:=Lh HF.o.box.arr;have hzl:gz<w2.heap.size:=by have:=HS2.o;have:=HGB.o;omega
  have hzw:w.heap.size≤w2.heap.size:=by have:=HGZ.o;omega
  have HPe:Hid (pieceM R (blkM R f) l=.mk 2 0 (bareL ys)):=Lh (by rw [HPf.o,HF.o.bare,HXL.o,List.take_length]);obtain⟨y0,y1,y2,sy⟩:=HAr.o.c3;obtain⟨b0,b1,b2,sb⟩:=HBA.o.c3;have k0:=HAr.o.free 0;have k1:=HAr.o.free 1;have k2:=HAr.o.free 2;go_wp2_with fail;refine bodyPost_ret (v:=.agg #[.int .i64 2,.int .i64 0,.slice p ys.length c]) (results_arr rowBlk rfl (((HAr.o.set 0 _).set 1 _).set 2 _) rfl rfl) rfl ?_;refine⟨2,0,.slice p ys.length c,ys,rfl,?_,?_,?_⟩
  · rw [HPe.o];unfold bareB;rfl
  · exact pc_store (gz:=gz) (HF.o.sub.block 2 0) (gtr (gtr (gsc wr 0 _) (gsc _ 1 _)) (gsc _ 2 _)) hzl hzw
  unfold Be;rw [HGZ.o];exact(((HBz.o.setCell (p:=⟨gz,0,none⟩) (Nat.le_refl _) (.int .i64 2)).setCell (p:=⟨gz,1,none⟩) (Nat.le_refl _) (.int .i64 0)).setCell (p:=⟨gz,2,none⟩) (Nat.le_refl _) (.slice p ys.length c))
 obtain⟨x,hx⟩:=gol hlt;obtain⟨bx,ox,rfl,sbx,hcx⟩:=HCX.o.resolve_left (by omega);have x0':=(hcx j x hx wr HBr.o).2 0 _ rfl;have x0:wr.cell? ⟨bx,ox+j,none⟩=some x.v:=by simpa using x0'
 have sx:=(hcx j x hx wr HBr.o).1;have hxm:=List.mem_of_getElem? hx;have hxr:=(HRW.o x hxm).over HBr.o;obtain⟨q1,q2,ev,n3,n4,hcs⟩:=irow_at hxr;unfold maxLen at n4;have hsm:x.s∈sidesM R l:=by rw [← HBR.o];exact List.mem_map.2 ⟨x,hxm,rfl⟩
 have HSm:=Lh hsm;have HSl:=Lh (sides_less HNs.o hsm);have HX1:=Lh hx;have HCS:=Lh hcs;rw [ev] at x0;clear x0' hcx hx hxm hxr hsm hcs ev;go_wp2;go_loopw [9,11,37] (fun v9 _ v37 wq=>ThRel wr l x.s v9 v37 wq) (fun _ _ v37 _=>x.s.length - (intOf v37).toNat)
 case atStart=>exact⟨0,none,0,Nat.zero_le _,rfl,by rw [List.take_zero,things_nil];rfl,Lh (by rw [List.take_zero,things_nil];exact gown_nil _ _),Below.refl _ _⟩
 obtain⟨q,p9,c9,hq,rfl,rfl,HT,hbq⟩:=hrel;rename World=>wq;have HBq:=Lh hbq
 by_cases hlt2:q<x.s.length
 ·
  obtain⟨u,hu⟩:=gol hlt2;obtain⟨bs,os,rfl,sbs,hcs2⟩:=HCS.o.resolve_left (by omega);obtain⟨su,u0⟩:=hcs2 q u hu wq hbq;have hul:=sides_lt HSm.o (List.mem_of_getElem? hu);obtain⟨y,hy⟩:=gol hul;obtain⟨bl,ol,rfl,sbl,hcl⟩:=HC.o.resolve_left (by omega);have hbw:Below gz w wq:=by exact bov HBz.o (by have:=HBr.o.size;have:=HGB.o;omega) hbq
  obtain⟨sy2,l0⟩:=hcl u y hy wq hbw;have HTs:=Lh (things_step hu hy);have hN:(thingsM l (x.s.take q)).length+1≤1099511627776:=by have:=HSl.o;unfold thingsM;rw [List.length_map,List.length_take];omega
  have hB3:=hbq.size;clear hcs2 hu hy hcl hbw;go_wp2_with (at_builtin;refine apD slIntI rfl _ _ rfl wr.heap.size _ _ (drf _) 1 _ _ _ HT.o rfl rfl rfl rfl hN (by decide) hB3 ?_;intro v9 w9 ho9 hg9);obtain⟨p8,c8,e8,hO8⟩:=iown_more ho9;subst e8;go_roundw
  case rel=>exact⟨q+1,p8,c8,hlt2,by go_num,by rw [HTs.o],Lh (by rw [HTs.o];exact hO8),bgr HBq.o hB3 HT.o hg9⟩
  simp [intOf];omega
 obtain rfl:q=x.s.length:=by omega
 rw [List.take_length] at HT;rw [List.take_length];have HBxq:=Lh (HF.o.box.over hbq);have HSq:=Lh (HF.o.sub.over hbq);have HBxa:=Lh HBxq.o.arr;have hbw:Below gz w wq:=by exact bov HBz.o (by have:=HBr.o.size;have:=HGB.o;omega) hbq
 have HOc:Hid (∀ W,Be wq W→Calls Tryz.prog 116 #[.pointer (some ⟨r,0,none⟩),.slice p9 (thingsM l x.s).length c9] W (OfRes W (blkM R f (thingsM l x.s)))):=Lh fun W hW=>HOf.o _ _ W (by unfold thingsM;rw [List.length_map];have:=HSl.o;omega) (by unfold thingsM;rw [List.length_map];have:=HSl.o;omega) (things_le HL.o HSm.o) ((HR.o.over (by unfold Be;rw [HGZ.o];exact hbw)).over hW) (HT.o.over hW).row;have hxj:(sidesM R l)[j]? = some x.s:=by rw [← HBR.o,List.getElem?_map,HX1.o];rfl
 have HXj:=Lh hxj;have hzl:gb<w2.heap.size:=by have:=HS2.o;omega
 have hwl:=HF.o.world.size;have hN6:ys.length+1≤1099511627776:=by have:=bare_len HF.o.bare;have:=sides_few R l;have:=HXL.o;omega
 have HN6:=Lh hN6;clear hxj hbw hN6;obtain⟨b0,b1,b2,sb⟩:=HBxa.o.c3;go_upto_region 16 with fail;refine wlo 7 fun hcur=>?_;repeat(first|refine lxq ?_|(refine lxl rfl ?_;go_wp2_with (first|(go_at_call 116;(with_reducible refine(HOc.o _ hcur).mono ?_);rintro e w5 ⟨v5,ys5,rfl,hx5,hr5,hb5⟩;(obtain⟨p5,c5,e5,_,_,_⟩:=hx5.own.row.at encBl_len);subst e5;have HX5:Hid (BX w5 wq.heap.size (.slice p5 ys5.length c5) ys5):=Lh hx5;have HR5:=Lh hr5;replace hcur:=bvo hcur hb5;clear hx5 hr5 hb5));refine⟨iov (by first|exact hcur|exact hcur.alloc hcur.size _),?_⟩))
 refine lxe ?_;have HB5:=Lh hcur;have HO5:=Lh ((HSq.o.over hcur).own);have hB6:w2.heap.size≤w5.heap.size:=by have:=hcur.size;have:=HBq.o.size;omega
 clear hcur;go_wp2_with (at_builtin;(first|refine wpList_append_newK slBlk rfl _ _ rfl w2.heap.size #[.int .i64 4,.int .i64 0,.slice p5 ys5.length c5] 251 (drf _) 1 _ _ _ HO5.o rfl rfl rfl rfl HN6.o (by decide) hB6 ?_|refine wpList_append_newK slBlk rfl _ _ rfl w2.heap.size #[.int .i64 4,.int .i64 0,.slice p5 ys5.length c5] 251 (ddw _) 1 _ _ _ HO5.o rfl rfl rfl rfl HN6.o (by decide) hB6 ?_);intro v6 w6 ho6 hg6 hv6;(obtain⟨p6,c6,e6,_,_,_⟩:=(GOwn.row (GOwn.snoc (x:=BlL.mk 4 0 (.slice p5 ys5.length c5) ys5) ho6)).at encBl_len);(have e7:v6=.slice p6 (ys.length+1) c6:=by rw [e6,List.length_append];rfl);clear e6;subst e7;have HST:=Lh (HF.o.step HBq.o HB5.o HX5.o HR5.o HXj.o hzl hwl ho6 hg6 hv6);have HB6:=Lh ((HBxq.o.over HB5.o).kept hg6 (fun e=>by have:=gown_low HSq.o.own e.symm;omega));have t2:=HB6.o.arr.k 2 rfl;have t3:=HB6.o.arr.free 2;have st:=HB6.o.arr.lt;clear ho6 hg6 hv6);go_roundw
 case rel=>exact⟨j+1,p6,c6,_,hlt,by go_num,HST⟩
 simp [intOf];omega
end
variable{l:List Nat}{k:Nat}
def BoRel(w:World)(R:List (Nat × Nat))(f:Nat)(l:List Nat)(v5 v6 v10:Value)(wr:World):Prop:=∃(i at':Nat) (xs:List BlL),i≤l.length∧v10=.int .i64 i∧v6=.int .i64 at'∧Hid (BX wr w.heap.size v5 xs)∧Hid (bareL xs=(piecesTo R l i).1.map (pieceM R (blkM R f)))∧at'=(piecesTo R l i).2∧Be w wr
theorem pieces_zero(R:List (Nat × Nat))(l:List Nat):piecesTo R l 0=([],0):=rfl
theorem pieces_yes{R:List (Nat × Nat)}(h:k+1=l.length∨cutB R l (k+1)=true):piecesTo R l (k+1)=((piecesTo R l k).1++[(l.take (k+1)).drop (piecesTo R l k).2],k+1):=by rw [piecesTo];exact if_pos h
theorem pieces_no{R:List (Nat × Nat)}(h:¬ (k+1=l.length∨cutB R l (k+1)=true)):piecesTo R l (k+1)=piecesTo R l k:=by rw [piecesTo];exact if_neg h
theorem pieces_few(R:List (Nat × Nat))(l:List Nat):∀ k,(piecesTo R l k).1.length≤k
 | 0=>Nat.le_refl _
 | k+1=>by
  have:=pieces_few R l k
  by_cases h:k+1=l.length∨cutB R l (k+1)=true
  · rw [pieces_yes h];simp;omega
  rw [pieces_no h];omega
theorem of_snoc{w w3 w6 wr:World}{v v6:Value}{xs ys3:List BlL}{k3 n3:Int}{s3:Value}{lo:Nat}(h:BX w3 w.heap.size v xs)(hx:BIn (fun b=>lo≤b∧b<w3.heap.size) w3 (.mk k3 n3 s3 ys3))(hlo:wr.heap.size≤lo)(hw:w.heap.size≤wr.heap.size)(hv:∀ b,v.ownBlock=some b→b<wr.heap.size)
  (ho:w6.ownsRow w.heap.size 251 3 v6 (xs.length+1) (xs.flatMap encBl++[.int .i64 k3,.int .i64 n3,s3])) (hg:w3.grownBy w6 v.ownBlock) (hk:v6.ownBlock=v.ownBlock∨∃ k,v6.ownBlock=some k∧w3.heap.size≤k):BX w6 w.heap.size v6 (xs++[.mk k3 n3 s3 ys3]):=
 BX.snoc h (BIn.weak hx fun b hb=>⟨hb.1,hb.2,fun e=>by have:=hv b e.symm;omega⟩) (by omega) (GOwn.snoc (x:=BlL.mk k3 n3 s3 ys3) ho) hg hk
theorem row_part{w:World}{b off n cap at':Nat}(h:GRow encI 1 w (.slice (some ⟨b,off,none⟩) n cap) l)(h1:at'<k)(h2:k≤l.length):GRow encI 1 w (.slice (some ⟨b,off+at',none⟩) (k - at') (cap - at')) ((l.take k).drop at'):=by
 obtain⟨a,c2,e,z1,z2,hc⟩:=irow_at h;obtain⟨rfl,rfl,rfl⟩:=Value.slice.inj e;have h9:=slice_row (l:=at') (h:=k) h (by omega) h2;unfold sliced at h9;rw [if_neg (by omega)] at h9;unfold GRow;have e1:((l.take k).drop at').length=k - at':=by rw [List.length_drop,List.length_take];omega
 have e2:((l.take k).drop at').flatMap encI=((l.flatMap encI).drop (at'*1)).take ((k - at')*1):=by rw [encI_map,encI_map,Nat.mul_one,Nat.mul_one,← List.map_drop,← List.map_take,← List.map_drop,← List.map_take];congr 2;rw [List.drop_take]
 rw [e1,e2];simpa [Addr.add_lit] using h9
attribute [local irreducible] piecesTo pieceM blkM cutB
theorem bof_any(r n:Nat)(R:List (Nat × Nat)):∀(f:Nat) (l:List Nat) (v:Value) (w:World),l.length<f→l.length≤1000000→(∀ i∈l,i≤1000000)→RelAt w r n R→GRow encI 1 w v l →
  Calls Tryz.prog 116 #[.pointer (some ⟨r,0,none⟩),v] w (OfRes w (blkM R f l))
 | 0,l,v,w,hf,_,_,_,_=>absurd hf (Nat.not_lt_zero _)
 | f+1,l,v,w,hf,hn,hl,h,hv=>by
  have hih:=bof_any r n R f;obtain⟨a,cap,rfl,h1,h2,hc⟩:=irow_at hv;have HV:=Lh hv;unfold maxLen at h2;have HR:=Lh h;have HL:=Lh hl;have HIH:Hid (∀(t:List Nat) (tv:Value) (W:World),t.length<f→t.length≤1000000→(∀ i∈t,i≤1000000)→RelAt W r n R→GRow encI 1 W tv t→Calls Tryz.prog 116 #[.pointer (some ⟨r,0,none⟩),tv] W (OfRes W (blkM R f t))):=Lh fun t tv W ht h0 h1 h2 h3=>hih t tv W ht h0 h1 h2 h3;have HBK:Hid (blkM R (f+1) l=(piecesTo R l l.length).1.map (pieceM R (blkM R f))):=Lh (by rw [blkM];rfl);clear hv h hl hih;go_enter Tryz.func116,Tryz.ntmps116;go_wp2;go_loopw [5,6,10] (fun v5 v6 v10 wr=>BoRel w R f l v5 v6 v10 wr) (fun _ _ v10 _=>l.length - (intOf v10).toNat)
  case atStart=>exact⟨0,0,[],by omega,rfl,rfl,Lh (bx_nil _ _),Lh (by rw [pieces_zero];rfl),by rw [pieces_zero],Below.refl _ _⟩
  obtain⟨i,at',xs,hi,rfl,rfl,HX,HBa,hat,hbl⟩:=hrel;rename World=>wr;have HBr:=Lh hbl;have hai:at'≤i:=by rw [hat];exact pieces_at R l i
  have HAt:=Lh hat;have HXl:Hid (xs.length≤i):=Lh (by have h9:=congrArg List.length HBa.o;rw [bareL_map,List.length_map,List.length_map] at h9;rw [h9];exact pieces_few R l i);clear hat hbl
  by_cases hlt:i<l.length
  rotate_left
  · obtain rfl:i=l.length:=(by omega);go_wp2;go_ret;exact⟨_,xs,rfl,HX.o,by rw [HBa.o,HBK.o],HBr.o⟩
  obtain⟨b,off,rfl,sb,hcb⟩:=hc.resolve_left (by omega);clear hcb;have HPc:Hid (∀(tv:Value) (W:World),Be w W→GRow encI 1 W tv ((l.take (i+1)).drop at')→Calls Tryz.prog 187 #[.pointer (some ⟨r,0,none⟩),tv] W (PcRes W (pieceM R (blkM R f) ((l.take (i+1)).drop at')))):=Lh fun tv W hW hr=>bpiece_any f r n R tv _ W (HR.o.over hW) hr (fun z hz=>HL.o z (List.mem_of_mem_take (List.mem_of_mem_drop hz))) (by rw [List.length_drop,List.length_take];omega) (by rw [List.length_drop,List.length_take];omega) (by rw [List.length_drop,List.length_take];omega) HIH.o
  by_cases hlast:i+1=l.length
  ·
   have HPt:=Lh (pieces_yes (R:=R) (.inl hlast));have g1:((i:Int)+1 == (l.length:Int))=true:=(by rw [beq_iff_eq];omega);have HSlr:Hid (GRow encI 1 wr (.slice (some ⟨b,off+at',none⟩) (i+1 - at') (cap - at')) ((l.take (i+1)).drop at')):=Lh (row_part (HV.o.over HBr.o) (by omega) (by omega));rw [← HAt.o] at HPt;clear hlast;go_wp2_with fail
   with_reducible refine(HPc.o _ _ HBr.o HSlr.o).mono ?_
   rintro e w3 ⟨k3,n3,s3,ys3,rfl,hb3,hi3,hbw3⟩;have hs3:=(bin_mk.1 hi3).2.1;have HB3:=Lh hb3;have HI3:=Lh hi3;have HX3:=Lh (HX.o.over hbw3);have HBw3:=Lh (bvo HBr.o hbw3);have hN:xs.length+1≤1099511627776:=(by have:=HXl.o;omega);have hB3:=HBw3.o.size;have hBr3:=hbw3.size;have HO3:=Lh HX3.o.own;clear hb3 hi3 hbw3;go_wp2_with (at_builtin;(first|refine wpList_append_newK slBlk rfl _ _ rfl w.heap.size #[.int .i64 k3,.int .i64 n3,s3] 251 (drf _) 1 _ _ _ HO3.o rfl rfl rfl (by simp [hs3];exact⟨rfl,rfl⟩) hN (by decide) hB3 ?_|refine wpList_append_newK slBlk rfl _ _ rfl w.heap.size #[.int .i64 k3,.int .i64 n3,s3] 251 (ddw _) 1 _ _ _ HO3.o rfl rfl rfl (by simp [hs3];exact⟨rfl,rfl⟩) hN (by decide) hB3 ?_);intro v6 w6 ho6 hg6 hv6);go_roundw
   case rel=>exact⟨i+1,i+1,xs++[.mk k3 n3 s3 ys3],hlt,by go_num,by go_num,Lh (of_snoc HX3.o HI3.o (Nat.le_refl _) HBr.o.size (fun b hb=>gown_size HX.o.own hb) ho6 hg6 hv6),Lh (by rw [bareL_snoc,HBa.o,HB3.o,HPt.o,List.map_append];rfl),by rw [HPt.o],bgr HBw3.o hB3 HO3.o hg6⟩
   simp [intOf];omega
  have g1:((i:Int)+1 == (l.length:Int))=false:=by rw [beq_eq_false_iff_ne];omega
  cases hcu:cutB R l (i+1) with
  | true =>
   have HPt:=Lh (pieces_yes (R:=R) (.inr hcu));have HSlr:Hid (GRow encI 1 wr (.slice (some ⟨b,off+at',none⟩) (i+1 - at') (cap - at')) ((l.take (i+1)).drop at')):=Lh (row_part (HV.o.over HBr.o) (by omega) (by omega));have HCu:=Lh hcu;rw [← HAt.o] at HPt;clear hcu;go_wp2_with fail;refine(bcut_any r n R _ l (i+1) _ (HR.o.over HBr.o) (HV.o.over HBr.o) HL.o (by omega)).mono ?_;rw [HCu.o];rintro e w2 ⟨rfl,hw⟩;obtain rfl:=hw.symm;go_wp2_with fail
   with_reducible refine(HPc.o _ _ HBr.o HSlr.o).mono ?_
   rintro e w3 ⟨k3,n3,s3,ys3,rfl,hb3,hi3,hbw3⟩;have hs3:=(bin_mk.1 hi3).2.1;have HB3:=Lh hb3;have HI3:=Lh hi3;have HX3:=Lh (HX.o.over hbw3);have HBw3:=Lh (bvo HBr.o hbw3);have hN:xs.length+1≤1099511627776:=(by have:=HXl.o;omega);have hB3:=HBw3.o.size;have hBr3:=hbw3.size;have HO3:=Lh HX3.o.own;clear hb3 hi3 hbw3;go_wp2_with (at_builtin;(first|refine wpList_append_newK slBlk rfl _ _ rfl w.heap.size #[.int .i64 k3,.int .i64 n3,s3] 251 (drf _) 1 _ _ _ HO3.o rfl rfl rfl (by simp [hs3];exact⟨rfl,rfl⟩) hN (by decide) hB3 ?_|refine wpList_append_newK slBlk rfl _ _ rfl w.heap.size #[.int .i64 k3,.int .i64 n3,s3] 251 (ddw _) 1 _ _ _ HO3.o rfl rfl rfl (by simp [hs3];exact⟨rfl,rfl⟩) hN (by decide) hB3 ?_);intro v6 w6 ho6 hg6 hv6);go_roundw
   case rel=>exact⟨i+1,i+1,xs++[.mk k3 n3 s3 ys3],hlt,by go_num,by go_num,Lh (of_snoc HX3.o HI3.o (Nat.le_refl _) HBr.o.size (fun b hb=>gown_size HX.o.own hb) ho6 hg6 hv6),Lh (by rw [bareL_snoc,HBa.o,HB3.o,HPt.o,List.map_append];rfl),by rw [HPt.o],bgr HBw3.o hB3 HO3.o hg6⟩
   simp [intOf];omega
  | false =>
   have HPt:=Lh (pieces_no (R:=R) (k:=i) (fun q=>q.elim hlast (fun q=>by rw [hcu] at q;cases q)));have HCu:=Lh hcu;clear hcu;go_wp2_with fail;refine(bcut_any r n R _ l (i+1) _ (HR.o.over HBr.o) (HV.o.over HBr.o) HL.o (by omega)).mono ?_;rw [HCu.o];rintro e w2 ⟨rfl,hw⟩;obtain rfl:=hw.symm;go_wp2;go_roundw
   case rel=>exact⟨i+1,at',xs,hlt,by go_num,rfl,HX,Lh (by rw [HPt.o];exact HBa.o),by rw [HPt.o];exact HAt.o,HBr.o⟩
   simp [intOf];omega
end Go.Proofs.YtjccmcgglfncdaaGreatDoor
set_option maxRecDepth 100000
set_option maxHeartbeats 40000000
namespace Go.Proofs.YtjccmcgglfncdaaGreatDoor
open Go Go.RowKit
variable{k n:Int}{xs:List BlL}
mutual
def oddB:BlkM→Nat
 | .mk k _ s=>(if k=2∨k=3 then 1 else 0)+(if k=1 then 0 else oddL s)
def oddL:List BlkM→Nat
 | []=>0
 | b :: l=>oddB b+oddL l
end
theorem oddL_nil:oddL []=0:=by rw [oddL]
theorem oddL_cons(b:BlkM)(l:List BlkM):oddL (b :: l)=oddB b+oddL l:=by rw [oddL]
theorem oddL_append:∀ l m:List BlkM,oddL (l++m)=oddL l+oddL m
 | [],m=>by rw [List.nil_append,oddL_nil,Nat.zero_add]
 | b :: l,m=>by rw [List.cons_append,oddL_cons,oddL_cons,oddL_append l m];omega
theorem odd_succ{j:Nat}{x:BlL}(h:xs[j]? = some x):oddL (bareL (xs.take (j+1)))=oddL (bareL (xs.take j))+oddB (bareB x):=by rw [take_one h,bareL_snoc,oddL_append];rw [oddL_cons,oddL_nil,Nat.add_zero]
theorem odd_le(j:Nat):oddL (bareL (xs.take j))≤oddL (bareL xs):=by
 have h:bareL xs=bareL (xs.take j)++bareL (xs.drop j):=by rw [bareL_map,bareL_map,bareL_map,← List.map_append,List.take_append_drop]
 rw [h,oddL_append];omega
theorem oddB_mk(k n:Int)(s:List BlkM):oddB (.mk k n s)=(if k=2∨k=3 then 1 else 0)+(if k=1 then 0 else oddL s):=by rw [oddB]
theorem odd_1(n:Int)(s:List BlkM):oddB (.mk 1 n s)=0:=by rw [oddB_mk];simp
theorem odd_23{s:List BlkM}(h:k=2∨k=3):oddB (.mk k n s)=1+oddL s:=by rw [oddB_mk,if_pos h,if_neg (by omega)]
theorem odd_0{s:List BlkM}(h1:k≠1)(h2:¬ (k=2∨k=3)):oddB (.mk k n s)=oddL s:=by rw [oddB_mk,if_neg h2,if_neg h1,Nat.zero_add]
theorem bins_mem{A:Nat→Prop}{w:World}:∀ {l:List BlL} {x:BlL},BIns A w l→x∈l→BIn A w x
 | [],x,_,hx=>absurd hx (List.not_mem_nil)
 | b :: l,x,h,hx=>by
  unfold BIns at h;rcases List.mem_cons.1 hx with rfl|hx
  · exact h.1
  exact bins_mem h.2 hx
theorem size_sub{sv:Value}{s:List BlL}(h:BlL.mk k n sv s∈xs):SizeOf.sizeOf s<SizeOf.sizeOf xs:=by
 have h1:=List.sizeOf_lt_of_mem h;have h2:SizeOf.sizeOf s<SizeOf.sizeOf (BlL.mk k n sv s):=by simp;omega
 omega
theorem bareL_nil:bareL []=[]:=by rw [bareL]
def OddRel(w:World)(xs:List BlL)(v3 v8:Value)(wr:World):Prop:=∃ j:Nat,j≤xs.length∧v8=.int .i64 j∧v3=.int .i64 (oddL (bareL (xs.take j)):Int)∧Be w wr
attribute [local irreducible] oddL oddB bareL bareB
theorem bodd_any(A:Nat→Prop):∀(N:Nat) (v:Value) (xs:List BlL) (w:World),SizeOf.sizeOf xs<N→GRow encBl 3 w v xs→BIns A w xs→oddL (bareL xs)≤1000000 →
  Calls Tryz.prog 120 #[v] w fun e w'=>e=.returned (.int .i64 (oddL (bareL xs):Int))∧Be w w'
 | 0,v,xs,w,hs,_,_,_=>absurd hs (Nat.not_lt_zero _)
 | N+1,v,xs,w,hs,hv,hi,ho=>by
  have HIH:=Lh (bodd_any A N);obtain⟨a,cap,rfl,h1,h2,hc⟩:=hv.at encBl_len;unfold maxLen at h2;have HC:=Lh hc;have HI:=Lh hi;have HS:=Lh hs;have HO:=Lh ho;clear hv hi hc hs ho;go_enter Tryz.func120,Tryz.ntmps120;go_wp2;go_loopw [3,8] (fun v3 v8 wr=>OddRel w xs v3 v8 wr) (fun _ v8 _=>xs.length - (intOf v8).toNat)
  case atStart=>exact⟨0,by omega,rfl,by rw [List.take_zero,bareL_nil,oddL_nil];rfl,Below.refl _ _⟩
  obtain⟨j,hj,rfl,rfl,hbl⟩:=hrel;rename World=>wr;have HB:=Lh hbl
  by_cases hlt:j<xs.length
  rotate_left
  · obtain rfl:j=xs.length:=(by omega);rw [List.take_length];go_wp2;go_ret;exact⟨rfl,HB.o⟩
  obtain⟨b,off,rfl,sb,hcb⟩:=HC.o.resolve_left (by omega);obtain⟨⟨kd,nm,sv,sub⟩,hx⟩:=gol hlt;have hr:=hcb j _ hx wr hbl;have sx:=hr.1;have x0:wr.cell? ⟨b,off+j*3,none⟩=some (.int .i64 kd):=hr.2 0 _ rfl;have x1:wr.cell? ⟨b,off+j*3+1,none⟩=some (.int .i64 nm):=hr.2 1 _ rfl;have x2:wr.cell? ⟨b,off+j*3+2,none⟩=some sv:=hr.2 2 _ rfl;have hm:=List.mem_of_getElem? hx;have hin:=bin_mk.1 (bins_mem HI.o hm);obtain⟨a',cap',esv,_,_,_⟩:=hin.1.at encBl_len;subst esv;have HSub:=Lh hin.1;have HSin:=Lh hin.2.2.2;have HSz:Hid (SizeOf.sizeOf sub<N):=Lh (by have:=size_sub hm;have:=HS.o;omega);have hsu:=odd_succ hx;have hle:=odd_le (xs:=xs) (j+1);have hot:=HO.o;obtain⟨oj,hoj⟩:∃ oj,oddL (bareL (xs.take j))=oj:=⟨_,rfl⟩;rw [hoj] at hsu;rw [hoj];rw [show bareB (.mk kd nm (.slice a' sub.length cap') sub)=.mk kd nm (bareL sub) from by unfold bareB;rfl] at hsu;clear hcb hx hr hin hm hoj
  by_cases k1:kd=1
  ·
   subst k1;rw [odd_1] at hsu;have HSu:Hid (oddL (bareL (xs.take (j+1)))=oj):=Lh (by omega);clear hsu hle;go_upto_region 5 with fail;have HK:=Lh (anw wr #[.int .i64 1,.int .i64 nm,.slice a' sub.length cap'] 251);have HN:=Lh (bnew (w:=wr) (.cells #[.int .i64 1,.int .i64 nm,.slice a' sub.length cap'] 251));generalize wr.alloc (.cells #[.int .i64 1,.int .i64 nm,.slice a' sub.length cap'] 251)=w0 at *;obtain⟨y0,y1,y2,sy⟩:=HK.o.c3;go_wp2;go_roundw
   case rel=>exact⟨j+1,hlt,by go_num,by rw [HSu.o],bvo HB.o HN.o⟩
   simp [intOf];omega
  obtain⟨ob,hob⟩:∃ ob,oddL (bareL sub)=ob:=⟨_,rfl⟩;have HOb:=Lh hob
  by_cases k2:kd=2
  ·
   subst k2;rw [odd_23 (.inl rfl),hob] at hsu;have HSu:Hid (oddL (bareL (xs.take (j+1)))=oj+1+ob):=Lh (by omega);have hb1:oj+1+ob≤1000000:=(by omega);clear hsu hle hot hob k1;go_upto_region 5 with fail;have HK:=Lh (anw wr #[.int .i64 2,.int .i64 nm,.slice a' sub.length cap'] 251);have HN:=Lh (bnew (w:=wr) (.cells #[.int .i64 2,.int .i64 nm,.slice a' sub.length cap'] 251));generalize wr.alloc (.cells #[.int .i64 2,.int .i64 nm,.slice a' sub.length cap'] 251)=w0 at *;obtain⟨y0,y1,y2,sy⟩:=HK.o.c3;go_wp2_with fail;refine(HIH.o _ sub _ HSz.o (HSub.o.over (bvo HB.o HN.o)) (HSin.o.over (bvo HB.o HN.o)) (by rw [HOb.o];omega)).mono ?_;rw [HOb.o];rintro e w2 ⟨rfl,hb2⟩;have HB2:=Lh (bvo (bov HB.o HB.o.size HN.o) hb2);clear hb2;go_wp2;go_roundw
   case rel=>exact⟨j+1,hlt,by go_num,by rw [HSu.o];go_num,HB2.o⟩
   simp [intOf];omega
  by_cases k3:kd=3
  ·
   subst k3;rw [odd_23 (.inr rfl),hob] at hsu;have HSu:Hid (oddL (bareL (xs.take (j+1)))=oj+1+ob):=Lh (by omega);have hb1:oj+1+ob≤1000000:=(by omega);clear hsu hle hot hob k1 k2;go_upto_region 5 with fail;have HK:=Lh (anw wr #[.int .i64 3,.int .i64 nm,.slice a' sub.length cap'] 251);have HN:=Lh (bnew (w:=wr) (.cells #[.int .i64 3,.int .i64 nm,.slice a' sub.length cap'] 251));generalize wr.alloc (.cells #[.int .i64 3,.int .i64 nm,.slice a' sub.length cap'] 251)=w0 at *;obtain⟨y0,y1,y2,sy⟩:=HK.o.c3;go_wp2_with fail;refine(HIH.o _ sub _ HSz.o (HSub.o.over (bvo HB.o HN.o)) (HSin.o.over (bvo HB.o HN.o)) (by rw [HOb.o];omega)).mono ?_;rw [HOb.o];rintro e w2 ⟨rfl,hb2⟩;have HB2:=Lh (bvo (bov HB.o HB.o.size HN.o) hb2);clear hb2;go_wp2;go_roundw
   case rel=>exact⟨j+1,hlt,by go_num,by rw [HSu.o];go_num,HB2.o⟩
   simp [intOf];omega
  rw [odd_0 k1 (by omega),hob] at hsu;have HSu:Hid (oddL (bareL (xs.take (j+1)))=oj+ob):=Lh (by omega);have hb1:oj+ob≤1000000:=by omega
  have g1:(kd == 1)=false:=by rw [beq_eq_false_iff_ne];exact k1
  have g1':(kd != 1)=true:=by rw [bne_iff_ne];exact k1
  have g2:(kd == 2)=false:=by rw [beq_eq_false_iff_ne];exact k2
  have g3:(kd == 3)=false:=by rw [beq_eq_false_iff_ne];exact k3
  clear hsu hle hot hob;go_upto_region 5 with fail;have HK:=Lh (anw wr #[.int .i64 kd,.int .i64 nm,.slice a' sub.length cap'] 251);have HN:=Lh (bnew (w:=wr) (.cells #[.int .i64 kd,.int .i64 nm,.slice a' sub.length cap'] 251));generalize wr.alloc (.cells #[.int .i64 kd,.int .i64 nm,.slice a' sub.length cap'] 251)=w0 at *;obtain⟨y0,y1,y2,sy⟩:=HK.o.c3;go_wp2_with fail;refine(HIH.o _ sub _ HSz.o (HSub.o.over (bvo HB.o HN.o)) (HSin.o.over (bvo HB.o HN.o)) (by rw [HOb.o];omega)).mono ?_;rw [HOb.o];rintro e w2 ⟨rfl,hb2⟩;have HB2:=Lh (bvo (bov HB.o HB.o.size HN.o) hb2);clear hb2;go_wp2;go_roundw
  case rel=>exact⟨j+1,hlt,by go_num,by rw [HSu.o];go_num,HB2.o⟩
  simp [intOf];omega
end Go.Proofs.YtjccmcgglfncdaaGreatDoor
namespace Go.Proofs.YtjccmcgglfncdaaGreatDoor
open Go Go.RowKit
def ShV(w:World)(s:Option Addr)(l:List VertM)(R:List (Nat × Nat)):Prop:=(∃ b,s=some ⟨b,0,none⟩∧ShAt w b l R)∨(s=none∧l=[]∧R=[])
theorem ShV.over{w w':World}{s:Option Addr}{l:List VertM}{R:List (Nat × Nat)}(h:ShV w s l R)(hb:Be w w'):ShV w' s l R:=
 h.imp (fun⟨b,e,h⟩=>⟨b,e,h.over hb⟩) id
theorem orderN:orderM [] 0=[]:=up_order (L:=[]) (fun s h=>absurd h (List.not_mem_nil)) 0
theorem sorderN_any(w:World):Calls Tryz.prog 189 #[.pointer none] w fun e w'=>e=.returned (.slice none 0 0)∧w'=w:=by go_enter Tryz.func189,Tryz.ntmps189;go_wp2;go_ret;exact⟨rfl,rfl⟩
theorem idxN_any(f:Value)(w:World):Calls Tryz.prog 249 #[.slice none 0 0,f] w fun e w'=>e=.returned (.int .i64 (-1))∧w'=w:=by
 go_enter Tryz.func249,Tryz.ntmps249;go_wp2;go_loopw [8] (fun v8 wr=>v8=.int .i64 0∧wr=w) (fun v8 _=>0)
 case atStart=>exact⟨rfl,rfl⟩
 obtain⟨rfl,hw⟩:=hrel;obtain rfl:=hw;go_wp2;go_ret;exact⟨rfl,rfl⟩
theorem delN_any(f:Value)(w:World):Calls Tryz.prog 188 #[.slice none 0 0,f] w fun e w'=>e=.returned (.slice none 0 0)∧w'=w:=by go_enter Tryz.func188,Tryz.ntmps188;go_wp2_with fail;refine(idxN_any _ _).mono ?_;rintro e w1 ⟨rfl,hw⟩;obtain rfl:=hw.symm;go_wp2;go_ret;exact⟨rfl,rfl⟩
theorem saliveN_any(w:World):Calls Tryz.prog 118 #[.pointer none] w fun e w'=>e=.returned (.slice none 0 0)∧Be w w':=by have HC:=Lh (anw w #[.pointer none] 90);have HB:=Lh (bnew (w:=w) (.cells #[.pointer none] 90));go_enter Tryz.func118,Tryz.ntmps118;go_upto_region 1 with fail;generalize w.alloc (.cells #[.pointer none] 90)=w0 at *;obtain⟨c0,sc⟩:=HC.o.c1;go_wp2_with fail;refine(sorderN_any _).mono ?_;rintro e w1 ⟨rfl,hw⟩;obtain rfl:=hw.symm;go_wp2_with fail;refine(delN_any _ _).mono ?_;rintro e w1 ⟨rfl,hw⟩;obtain rfl:=hw.symm;go_wp2;go_ret;exact⟨rfl,HB.o⟩
theorem saliveV_any(s:Option Addr)(l:List VertM)(R:List (Nat × Nat))(w:World)(h:ShV w s l R)(hl:l.length≤65536):Calls Tryz.prog 118 #[.pointer s] w (SaRes w l R):=by
 rcases h with⟨b,rfl,h⟩|⟨rfl,rfl,rfl⟩
 · exact salive_any b l R w h hl
 refine(saliveN_any w).mono ?_;rintro e w' ⟨rfl,hb⟩;refine⟨_,rfl,?_,hb⟩;rw [show([]:List VertM).length=0 from rfl,orderN];exact gown_nil _ _
theorem sfirmV_any(s:Option Addr)(i:Nat)(l:List VertM)(R:List (Nat × Nat))(w:World)(h:ShV w s l R)(hi:i<l.length)(hl:l.length≤65536):Calls Tryz.prog 277 #[.pointer s,.int .i64 i] w (fun e w'=>e=.returned (.bool (firmB R l.length i))∧w'=w):=by
 rcases h with⟨b,rfl,h⟩|⟨rfl,rfl,rfl⟩
 · exact sfirm_any b i l R w h hi hl
 exact absurd hi (by simp)
theorem svertV_any(s:Option Addr)(i:Nat)(x:VertM)(l:List VertM)(R:List (Nat × Nat))(w:World)(h:ShV w s l R)(hx:l[i]? = some x):Calls Tryz.prog 149 #[.pointer s,.int .i64 i] w (SvRes w x):=by
 rcases h with⟨b,rfl,h⟩|⟨rfl,rfl,rfl⟩
 · exact svert_any b i x l R w h hx
 simp at hx
theorem srelV_any(s:Option Addr)(l:List VertM)(R:List (Nat × Nat))(w:World)(h:ShV w s l R)(hl:0<l.length):Calls Tryz.prog 117 #[.pointer s] w (fun e w'=>(∃ r,e=.returned (.pointer (some ⟨r,0,none⟩))∧RelAt w r l.length R)∧w'=w):=by
 rcases h with⟨b,rfl,h⟩|⟨rfl,rfl,rfl⟩
 · exact srel_any b l R w h
 exact absurd hl (by simp)
end Go.Proofs.YtjccmcgglfncdaaGreatDoor
set_option maxRecDepth 100000
set_option maxHeartbeats 40000000
namespace Go.Proofs.YtjccmcgglfncdaaGreatDoor
open Go Go.RowKit
def markA:ByteArray:=⟨#[60,60,60,60,60,60,60]⟩
def markS:ByteArray:=⟨#[61,61,61,61,61,61,61]⟩
def markT:ByteArray:=⟨#[124,124,124,124,124,124,124]⟩
def markE:ByteArray:=⟨#[62,62,62,62,62,62,62]⟩
mutual
def seenOne(l:List VertM):BlkM→List ByteArray
 | .mk k n s=>if k=1 then(if 0≤n∧n<(l.length:Int) then [textAt l n.toNat] else []) else if k=4 then seenAll l s else if k=2 then markA :: (seenJoin l markS true s++[markE]) else if k=3 then markA :: (seenJoin l markT true s++[markE]) else []
def seenAll(l:List VertM):List BlkM→List ByteArray
 | []=>[]
 | b :: r=>seenOne l b++seenAll l r
def seenJoin(l:List VertM)(m:ByteArray)(first:Bool):List BlkM→List ByteArray
 | []=>[]
 | b :: r=>(if first then [] else [m])++(seenOne l b++seenJoin l m false r)
end
theorem seenOne_mk(l:List VertM)(k n:Int)(s:List BlkM):seenOne l (.mk k n s)=if k=1 then(if 0≤n∧n<(l.length:Int) then [textAt l n.toNat] else []) else if k=4 then seenAll l s else if k=2 then markA :: (seenJoin l markS true s++[markE]) else if k=3 then markA :: (seenJoin l markT true s++[markE]) else []:=by rw [seenOne]
theorem seenAll_nil(l:List VertM):seenAll l []=[]:=by rw [seenAll]
theorem seenAll_cons(l:List VertM)(b:BlkM)(r:List BlkM):seenAll l (b :: r)=seenOne l b++seenAll l r:=by rw [seenAll]
theorem seenAll_append(l:List VertM):∀ a b:List BlkM,seenAll l (a++b)=seenAll l a++seenAll l b
 | [],b=>by rw [List.nil_append,seenAll_nil,List.nil_append]
 | x :: a,b=>by rw [List.cons_append,seenAll_cons,seenAll_cons,seenAll_append l a b,List.append_assoc]
theorem seenAll_one(l:List VertM)(b:BlkM):seenAll l [b]=seenOne l b:=by rw [seenAll_cons,seenAll_nil,List.append_nil]
theorem seenJoin_nil(l:List VertM)(m:ByteArray)(f:Bool):seenJoin l m f []=[]:=by rw [seenJoin]
theorem seenJoin_cons(l:List VertM)(m:ByteArray)(f:Bool)(b:BlkM)(r:List BlkM):seenJoin l m f (b :: r)=(if f then [] else [m])++(seenOne l b++seenJoin l m false r):=by rw [seenJoin]
theorem seenJoin_snoc(l:List VertM)(m:ByteArray):∀(a:List BlkM) (f:Bool) (b:BlkM),seenJoin l m f (a++[b])=seenJoin l m f a++((if f && a.isEmpty then [] else [m])++seenOne l b)
 | [],f,b=>by rw [List.nil_append,seenJoin_cons,seenJoin_nil,seenJoin_nil];simp
 | x :: a,f,b=>by rw [List.cons_append,seenJoin_cons,seenJoin_cons,seenJoin_snoc l m a false b];simp
theorem slenV_any(s:Option Addr)(l:List VertM)(R:List (Nat × Nat))(w:World)(h:ShV w s l R):Calls Tryz.prog 222 #[.pointer s] w fun e w'=>e=.returned (.int .i64 l.length)∧w'=w:=by
 rcases h with⟨b,rfl,h⟩|⟨rfl,rfl,rfl⟩
 · exact slen_any b l R w h
 go_enter Tryz.func222,Tryz.ntmps222;go_wp2;go_ret;exact⟨rfl,rfl⟩
def SvNone(w:World)(e:Ending)(w':World):Prop:=e=.returned (.tuple #[vertV noVert,.bool false])∧Be w w'
theorem svnone_mk{w w':World}(h:Be w w'):SvNone w (.returned (.tuple #[vertV noVert,.bool false])) w':=⟨rfl,h⟩
theorem svertN_any(s:Option Addr)(i:Int)(l:List VertM)(R:List (Nat × Nat))(w:World)(h:ShV w s l R)(hi:¬ (0≤i∧i<(l.length:Int))):Calls Tryz.prog 149 #[.pointer s,.int .i64 i] w (SvNone w):=by
 have HH:=Lh (h.over (bnew (w:=w) (.cells #[.int .u8 0,.int .u16 0,.int .u8 0,.int .u8 0,.int .u8 0,.int .u16 0,.int .u8 0,.string ⟨#[]⟩,.bool false] 101)));have HR:=Lh (anw w #[.int .u8 0,.int .u16 0,.int .u8 0,.int .u8 0,.int .u8 0,.int .u16 0,.int .u8 0,.string ⟨#[]⟩,.bool false] 101);have HB:=Lh (bnew (w:=w) (.cells #[.int .u8 0,.int .u16 0,.int .u8 0,.int .u8 0,.int .u8 0,.int .u16 0,.int .u8 0,.string ⟨#[]⟩,.bool false] 101));clear h
 by_cases h0:i<0
 · have d1:decide (i<0)=true:=decide_eq_true h0;clear hi;go_enter Tryz.func149,Tryz.ntmps149;go_upto_region 1 with fail;generalize w.alloc (.cells #[.int .u8 0,.int .u16 0,.int .u8 0,.int .u8 0,.int .u8 0,.int .u16 0,.int .u8 0,.string ⟨#[]⟩,.bool false] 101)=w0 at *;go_wp2_with ((with_reducible show wpList _ _ _ ({dst:=_,op:=.store _ _ _,type:=_,pos:=_,after:=_,guard:=_} :: _) _ _);refine wpList_store_arr rowVert rfl _ _ rfl _ _ (encVert noVert) HR.o rfl rfl rfl rfl rfl ?_);exact bodyPost_ret (v:=.tuple #[vertV noVert,.bool false]) (rasl rowVert rfl (HR.o.row (encVert noVert)) rfl rfl rfl) rfl (svnone_mk (below_setRow HB.o (Nat.le_refl _) _))
 have d1:decide (i<0)=false:=decide_eq_false h0;have d2:decide ((l.length:Int)≤i)=true:=decide_eq_true (by omega);have d3:(l.length:Int)≤i:=by omega
 clear hi;go_enter Tryz.func149,Tryz.ntmps149;go_upto_region 1 with fail;generalize w.alloc (.cells #[.int .u8 0,.int .u16 0,.int .u8 0,.int .u8 0,.int .u8 0,.int .u16 0,.int .u8 0,.string ⟨#[]⟩,.bool false] 101)=w0 at *;go_wp2_with fail;refine(slenV_any s l R _ HH.o).mono ?_;rintro e w1 ⟨rfl,hw⟩;obtain rfl:=hw.symm;go_wp2_with ((with_reducible show wpList _ _ _ ({dst:=_,op:=.store _ _ _,type:=_,pos:=_,after:=_,guard:=_} :: _) _ _);refine wpList_store_arr rowVert rfl _ _ rfl _ _ (encVert noVert) HR.o rfl rfl rfl rfl rfl ?_);exact bodyPost_ret (v:=.tuple #[vertV noVert,.bool false]) (rasl rowVert rfl (HR.o.row (encVert noVert)) rfl rfl rfl) rfl (svnone_mk (below_setRow HB.o (Nat.le_refl _) _))
end Go.Proofs.YtjccmcgglfncdaaGreatDoor
namespace Go.Proofs.YtjccmcgglfncdaaGreatDoor
open Go Go.RowKit
section
variable{x:BlL}{sub:List BlL}{out:List ByteArray}{c go gs:Nat}{p s:Option Addr}{w0 wr:World}
structure OutAt (wr w0:World) (go gs:Nat) (s:Option Addr) (p:Option Addr) (c:Nat) (out:List ByteArray):Prop where
 box:ArrT wr go 69 [.slice p out.length c]
 own:GOwn encS1 1 9 wr w0.heap.size (.slice p out.length c) out
 sheet:ArrT wr gs 90 [.pointer s]
 world:Be w0 wr
theorem OutAt.over{w':World}(h:OutAt wr w0 go gs s p c out)(hb:Be wr w'):OutAt w' w0 go gs s p c out:=
 ⟨h.box.over hb,h.own.over hb,h.sheet.over hb,bvo h.world hb⟩
theorem OutAt.ne(h:OutAt wr w0 go gs s p c out):gs≠go:=h.sheet.ne_type h.box (by decide)
theorem OutAt.push{w6:World}{p6:Option Addr}{c6:Nat}{o1:List ByteArray}(h:OutAt wr w0 go gs s p c out)(hgo:w0.heap.size≤go)(_:w0.heap.size≤gs)
  (ho:GOwn encS1 1 9 w6 w0.heap.size (.slice p6 o1.length c6) o1) (hg:wr.grownBy w6 (Value.slice p out.length c).ownBlock):OutAt (w6.setCell ⟨go,0,none⟩ (.slice p6 o1.length c6)) w0 go gs s p6 c6 o1:=by have hb:=h.box.grown h.own (by decide) hg;refine⟨hb.set 0 _,own_set ho (fun q=>hb.ne ho (by decide) q.symm) _ _,(h.sheet.grown h.own (by decide) hg).set_other h.ne _,(bgr h.world h.world.size h.own hg).setCell hgo _⟩
theorem sown_moreS{w:World}{B:Nat}{v:Value}{more o1:List ByteArray}(ho:o1=out++more)(h:w.ownsRow B 9 1 v (out.length+more.length) (out.flatMap encS1++more.flatMap encS1)):∃(p:Option Addr) (c:Nat),v=.slice p o1.length c∧GOwn encS1 1 9 w B v o1:=by
 have h2:GOwn encS1 1 9 w B v o1:=by subst ho;unfold GOwn;rw [List.length_append,List.flatMap_append];exact h
 obtain⟨p,c,e,_⟩:=h2.row.at encS1_len;exact⟨p,c,e,h2⟩
theorem one_size(h:x∈sub):SizeOf.sizeOf [x]≤SizeOf.sizeOf sub:=by
 induction sub with
 | nil=>exact absurd h (List.not_mem_nil)
 | cons y r ih =>
  rcases List.mem_cons.1 h with rfl|h
  ·
   simp only [List.cons.sizeOf_spec,List.nil.sizeOf_spec];have:1≤SizeOf.sizeOf r:=by cases r <;> simp <;> omega
   omega
  · have:=ih h;simp only [List.cons.sizeOf_spec] at *;omega
theorem join_succ(l:List VertM)(m:ByteArray){j:Nat}(h:sub[j]? = some x):seenJoin l m true (bareL (sub.take (j+1)))=seenJoin l m true (bareL (sub.take j))++((if j=0 then [] else [m])++seenOne l (bareB x)):=by
 have hj:=(List.getElem?_eq_some_iff.1 h).1;rw [take_one h,bareL_snoc,seenJoin_snoc];congr 2;cases j with
 | zero=>rw [List.take_zero,bareL_nil];rfl
 | succ j =>
  have:(bareL (sub.take (j+1))).isEmpty=false:=by
   rw [bareL_map];cases sub with
   | nil=>simp at hj
   | cons y r=>rfl
  rw [this];simp
theorem below_new_over{w w' w5:World}{o:Obj}(h:Be w w')(h5:Below w'.heap.size (w'.alloc o) w5):Be w w5:=(h.alloc h.size o).trans (h5.mono h.size)
theorem onesS(xs:List ByteArray):∀ u∈xs.flatMap encS1,u.oneCell'=true:=fun u hu=>by
 obtain⟨x,_,h⟩:=List.mem_flatMap.1 hu;have:u=.string x:=by simpa [encS1] using h
 subst this;rfl
theorem join_le(l:List VertM)(m:ByteArray){j:Nat}(hj:j<sub.length)(h:sub[j]? = some x):(seenJoin l m true (bareL (sub.take j))).length+(seenOne l (bareB x)).length+(if j=0 then 0 else 1)≤(seenJoin l m true (bareL sub)).length:=by
 have key:∀ k,k≤sub.length→(seenJoin l m true (bareL (sub.take k))).length≤(seenJoin l m true (bareL sub)).length:=by
  intro k hk;induction hd:sub.length - k generalizing k with
  | zero=>rw [List.take_of_length_le (by omega)];exact Nat.le_refl _
  | succ d ih =>have hk2:k<sub.length:=(by omega);have h1:=join_succ l m (x:=sub[k]) (List.getElem?_eq_getElem hk2);have h2:=ih (k+1) (by omega) (by omega);rw [h1,List.length_append] at h2;omega
 have h1:=key (j+1) hj;rw [join_succ l m h,List.length_append,List.length_append] at h1
 by_cases h0:j=0
 · rw [if_pos h0] at h1 ⊢;simp at h1;omega
 rw [if_neg h0] at h1 ⊢;simp at h1;omega
def ClRes(w0:World)(go gs:Nat)(s:Option Addr)(out:List ByteArray)(e:Ending)(w':World):Prop:=e=.returned (.tuple #[])∧∃ p c,OutAt w' w0 go gs s p c out
def JnRel(w0:World)(go gs:Nat)(s:Option Addr)(l:List VertM)(m:ByteArray)(out:List ByteArray)(sub:List BlL)(w1:World)(v14:Value)(wr:World):Prop:=∃(j:Nat) (p:Option Addr) (c:Nat),j≤sub.length∧v14=.int .i64 j∧∃ oj:List ByteArray,oj=out++[markA]++seenJoin l m true (bareL (sub.take j))∧Hid (OutAt wr w0 go gs s p c oj)
attribute [local irreducible] seenJoin seenAll seenOne bareL bareB
theorem oddFn_any(N:Nat)(l:List VertM)(R:List (Nat × Nat))(w0:World)(go gs:Nat)(s:Option Addr)(kd nm:Int)(sv:Value)(sub:List BlL)(m:ByteArray)(p:Option Addr)(c:Nat)(out:List ByteArray)(w:World)
  (hIH:∀(v:Value) (xs:List BlL) (W:World),SizeOf.sizeOf xs<N→GRow encBl 3 W v xs→BIns (fun _=>True) W xs→ShV W s l R→(seenAll l (bareL xs)).length≤1000000→Calls Tryz.prog 119 #[.pointer s,v] W (OwnRes encS1 1 9 W (seenAll l (bareL xs))))
  (hN:SizeOf.sizeOf sub<N) (hgo:w0.heap.size≤go) (hgs:w0.heap.size≤gs) (h:OutAt w w0 go gs s p c out) (hS:ShV w0 s l R) (hsub:GRow encBl 3 w0 sv sub) (hin:BIns (fun _=>True) w0 sub) (hlen:out.length+(seenJoin l m true (bareL sub)).length+2≤1000000) :
  Calls Tryz.prog 191 #[.agg #[.int .i64 kd,.int .i64 nm,sv],.string m,.pointer (some ⟨go,0,none⟩),.pointer (some ⟨gs,0,none⟩)] w (ClRes w0 go gs s (out++(markA :: (seenJoin l m true (bareL sub)++[markE])))):=by
 obtain⟨a,cap,rfl,h1,h2,hc⟩:=hsub.at encBl_len;unfold maxLen at h2;have HC:=Lh hc;have HIH:=Lh hIH;have HIn:=Lh hin;have HSh:=Lh hS;have HL:=Lh hlen;have HNn:=Lh hN;have HB:=Lh (anw w #[.int .i64 kd,.int .i64 nm,.slice a sub.length cap] 251);have HBw:=Lh (bnew (w:=w) (.cells #[.int .i64 kd,.int .i64 nm,.slice a sub.length cap] 251));have HBT:=Lh (arrT_new w [.int .i64 kd,.int .i64 nm,.slice a sub.length cap] 251);have HO:=Lh (h.over HBw.o);clear hsub hc hIH hin hS hN h;go_enter Tryz.func191,Tryz.ntmps191;go_upto_region 1 with fail;generalize w.alloc (.cells #[.int .i64 kd,.int .i64 nm,.slice a sub.length cap] 251)=w1 at *;have q0:=HO.o.box.arr.k 0 rfl;have q1:=HO.o.box.arr.free 0;have sq:=HO.o.box.arr.lt;have hBq:=HO.o.world.size;have HOw:=Lh HO.o.own;have hNa:out.length+1≤1099511627776:=by omega
 obtain⟨o1,ho1⟩:∃ o1,o1=out++[markA]:=⟨_,rfl⟩;have HO1:=Lh ho1;clear ho1;go_upto_region 2 with((at_builtin;refine apD slStrE rfl _ _ rfl w0.heap.size _ _ (drf _) 1 _ _ _ HOw.o rfl rfl rfl rfl hNa (by decide) hBq ?_;intro va wa hoa hga);(obtain⟨pa,ca,ea,hOa⟩:=sown_moreS (more:=[markA]) HO1.o hoa);subst ea;have HPa:=Lh (HO.o.push hgo hgs hOa hga);have b0:=(HO.o.box.grown HO.o.own (by decide) hga).arr.k 0 rfl;have b1:=(HO.o.box.grown HO.o.own (by decide) hga).arr.free 0;have b2:=(HO.o.box.grown HO.o.own (by decide) hga).arr.lt;have HGa:=Lh hga;clear hoa hga hOa)
 have HBx:=Lh ((HBT.o.grown HO.o.own (by decide) HGa.o).set_other (a:=⟨go,0,none⟩) (HBT.o.ne_type HO.o.box (by decide)) (.slice pa o1.length ca));generalize wa.setCell ⟨go,0,none⟩ (.slice pa o1.length ca)=w2 at *;clear q0 q1 sq b0 b1 b2 hBq;have y2:=HBx.o.arr.k 2 rfl;have sy:=HBx.o.arr.lt;go_wp2;go_loopw [14] (fun v14 wr=>JnRel w0 go gs s l m out sub w2 v14 wr) (fun v14 _=>sub.length - (intOf v14).toNat)
 case atStart=>exact⟨0,pa,ca,Nat.zero_le _,rfl,o1,by rw [List.take_zero,bareL_nil,seenJoin_nil,List.append_nil];exact HO1.o,HPa⟩
 obtain⟨j,pj,cj,hj,rfl,oj,hoj,HJ⟩:=hrel;rename World=>wr;have HOj:=Lh hoj;clear hoj;have HBj:=Lh HJ.o.world
 by_cases hlt:j<sub.length
 rotate_left
 ·
  obtain rfl:j=sub.length:=by omega
  have q0:=HJ.o.box.arr.k 0 rfl;have q1:=HJ.o.box.arr.free 0;have sq:=HJ.o.box.arr.lt;have hB9:=HJ.o.world.size;have HOw9:=Lh HJ.o.own;have hol:=congrArg List.length HOj.o;rw [List.take_length,List.length_append,List.length_append] at hol;have hol1:([markA]:List ByteArray).length=1:=rfl;have hN9:oj.length+1≤1099511627776:=by omega
  obtain⟨o9,ho9⟩:∃ o9,o9=oj++[markE]:=⟨_,rfl⟩;have HO9:=Lh ho9;have HFin:Hid (out++(markA :: (seenJoin l m true (bareL sub)++[markE]))=o9):=Lh (by rw [HO9.o,HOj.o,List.take_length];simp);clear hol hol1 ho9;go_wp2_with ((at_builtin;refine apD slStrE rfl _ _ rfl w0.heap.size _ _ (drf _) 1 _ _ _ HOw9.o rfl rfl rfl rfl hN9 (by decide) hB9 ?_;intro v9 w9 ho9 hg9);(obtain⟨p9,c9,e9,hO9⟩:=sown_moreS (more:=[markE]) HO9.o ho9);subst e9;have HP9:=Lh (HJ.o.push hgo hgs hO9 hg9);have z0:=(HJ.o.box.grown HJ.o.own (by decide) hg9).arr.k 0 rfl;have z1:=(HJ.o.box.grown HJ.o.own (by decide) hg9).arr.free 0;have z2:=(HJ.o.box.grown HJ.o.own (by decide) hg9).arr.lt;clear ho9 hg9 hO9);refine bodyPost_end (results_none rfl _ _ _) rfl ?_;exact⟨rfl,p9,c9,by rw [HFin.o];exact HP9.o⟩
 obtain⟨bs,os,rfl,sbs,hcs⟩:=HC.o.resolve_left (by omega);obtain⟨⟨kx,nx,sx,ux⟩,hx⟩:=gol hlt;have hr:=hcs j _ hx wr HJ.o.world;have sxx:=hr.1;have hm:=List.mem_of_getElem? hx;have hxin:=bins_mem HIn.o hm;obtain⟨ax,cpx,esx,_,_,_⟩:=(bin_mk.1 hxin).1.at encBl_len;subst esx;have x0:wr.cell? ⟨bs,os+j*3,none⟩=some (.int .i64 kx):=hr.2 0 _ rfl;have x1:wr.cell? ⟨bs,os+j*3+1,none⟩=some (.int .i64 nx):=hr.2 1 _ rfl;have x2:wr.cell? ⟨bs,os+j*3+2,none⟩=some (.slice ax ux.length cpx):=hr.2 2 _ rfl;have HXi:=Lh hxin;have HX:=Lh hx;have HSz:Hid (SizeOf.sizeOf [BlL.mk kx nx (.slice ax ux.length cpx) ux]<N):=Lh (by have:=one_size hm;have:=HNn.o;omega);have HSu:=Lh (join_succ l m hx);clear hcs hx hr hm hxin;go_upto_region 5 with fail;have HTx:=Lh (arrT_new wr [.int .i64 kx,.int .i64 nx,.slice ax ux.length cpx] 251);have HNx:=Lh (bnew (w:=wr) (.cells #[.int .i64 kx,.int .i64 nx,.slice ax ux.length cpx] 251));have HJ1:=Lh (HJ.o.over HNx.o);generalize wr.alloc (.cells #[.int .i64 kx,.int .i64 nx,.slice ax ux.length cpx] 251)=w3 at *;clear x0 x1 x2 sxx;obtain⟨sn,hsn⟩:∃ sn,seenOne l (bareB (.mk kx nx (.slice ax ux.length cpx) ux))=sn:=⟨_,rfl⟩;have HSn:=Lh hsn;have hjl:=join_le l m hlt HX.o;rw [hsn] at hjl;have hol:=congrArg List.length HOj.o;rw [List.length_append,List.length_append] at hol;have hol1:([markA]:List ByteArray).length=1:=rfl;have hob:oj.length+sn.length+1≤1000000:=by omega
 clear hol hol1 hjl;have HCl:Hid (∀(W:World),Be w0 W→Calls Tryz.prog 119 #[.pointer s,.slice (some ⟨W.heap.size,0,none⟩) 1 1] (W.alloc (.cells #[.int .i64 kx,.int .i64 nx,.slice ax ux.length cpx] 251)) (OwnRes encS1 1 9 (W.alloc (.cells #[.int .i64 kx,.int .i64 nx,.slice ax ux.length cpx] 251)) sn)):=Lh fun W hW=>by have h9:=HIH.o (.slice (some ⟨W.heap.size,0,none⟩) 1 1) [.mk kx nx (.slice ax ux.length cpx) ux] (W.alloc (.cells #[.int .i64 kx,.int .i64 nx,.slice ax ux.length cpx] 251)) HSz.o (show GOwn encBl 3 251 (W.alloc (.cells #[.int .i64 kx,.int .i64 nx,.slice ax ux.length cpx] 251)) 0 (.slice (some ⟨W.heap.size,0,none⟩) 1 1) [.mk kx nx (.slice ax ux.length cpx) ux] from own_lit28s W 251 [BlL.mk kx nx (.slice ax ux.length cpx) ux] 0 rfl (by show 1≤maxLen;unfold maxLen;omega) (Nat.zero_le _)).row (bins_one ((HXi.o.over hW).over (bnew _))) ((HSh.o.over hW).over (bnew _)) (by rw [bareL_map,List.map_cons,List.map_nil,seenAll_one,HSn.o];omega);rw [bareL_map,List.map_cons,List.map_nil,seenAll_one,HSn.o] at h9;exact h9
 have HCd:Hid (∀(W:World),Be w0 W→Calls Tryz.prog 119 #[.pointer s,.slice (some ⟨W.heap.size,0,none⟩) 1 1] (W.alloc (.cells #[.int .i64 kx,.int .i64 nx,.slice ax ux.length cpx] 251)).drew (OwnRes encS1 1 9 (W.alloc (.cells #[.int .i64 kx,.int .i64 nx,.slice ax ux.length cpx] 251)).drew sn)):=Lh fun W hW=>HCl.o W.drew hW.drew;clear hsn
 by_cases hj0:j=0
 ·
  have g0:decide ((j:Int) > 0)=false:=decide_eq_false (by omega);have g1:¬ 0<j:=by omega
  have u0:=HJ1.o.box.arr.k 0 rfl;have u1:=HJ1.o.sheet.arr.k 0 rfl;have us:=HJ1.o.box.arr.lt;have ut:=HJ1.o.sheet.arr.lt;obtain⟨t0,t1,t2,tl⟩:=HTx.o.arr.c3;have HBW:=Lh HJ1.o.world;go_upto_region 7 with fail;refine wlo 5 fun hcur=>?_;repeat(first|refine lxq ?_|(refine lxl rfl ?_;go_wp2_with (first|(go_at_call 119;(with_reducible first|refine(HCl.o _ (bvo HBW.o hcur)).mono ?_|refine(HCd.o _ HBW.o).mono ?_);rintro e w5 ⟨v5,rfl,ho5,hb5⟩;have HO5:=Lh ho5;replace hcur:Be w3 w5:=below_new_over hcur (by first|exact hb5|exact hb5.mono (by simp));clear ho5 hb5));refine⟨iov (by first|exact hcur|exact hcur.alloc hcur.size _),?_⟩))
  refine lxe ?_;have H5:=Lh (HJ1.o.over hcur);clear hcur u0 u1 us ut t0 t1 t2 tl;obtain⟨o7,ho7⟩:∃ o7,o7=oj++sn:=⟨_,rfl⟩;have HO7:=Lh ho7;have HR5:=Lh HO5.o.row;have HOw5:=Lh H5.o.own;have hN5:oj.length+sn.length≤1099511627776:=by omega
  have hB5:=H5.o.world.size;clear ho7;go_wp2_with (at_builtin;refine wpList_append_old slStrE rfl _ _ rfl w0.heap.size _ _ _ HOw5.o rfl _ _ _ HR5.o rfl (onesS _) hN5 (by decide) hB5 ?_;intro v7 w7 ho7 hg7;(obtain⟨p7,c7,e7,hO7⟩:=sown_moreS (more:=sn) HO7.o ho7);subst e7;have HP7:=Lh (H5.o.push hgo hgs hO7 hg7);have z0:=(H5.o.box.grown H5.o.own (by decide) hg7).arr.k 0 rfl;have z1:=(H5.o.box.grown H5.o.own (by decide) hg7).arr.free 0;have z2:=(H5.o.box.grown H5.o.own (by decide) hg7).arr.lt;clear ho7 hg7 hO7);go_roundw
  case rel=>exact⟨j+1,p7,c7,hlt,by go_num,o7,by rw [HO7.o,HOj.o,HSu.o,HSn.o,if_pos hj0,List.nil_append,List.append_assoc],HP7⟩
  simp [intOf];omega
 have g0:decide ((j:Int) > 0)=true:=decide_eq_true (by omega);have g1:0<j:=by omega
 have q0:=HJ1.o.box.arr.k 0 rfl;have q1:=HJ1.o.box.arr.free 0;have sq:=HJ1.o.box.arr.lt;have hB3:=HJ1.o.world.size;have HOw3:=Lh HJ1.o.own;have hN3:oj.length+1≤1099511627776:=by omega
 obtain⟨o6,ho6⟩:∃ o6,o6=oj++[m]:=⟨_,rfl⟩;have hl6:=congrArg List.length ho6;rw [List.length_append] at hl6;have hl7:([m]:List ByteArray).length=1:=rfl;have hl8:o6.length+sn.length≤1000000:=by omega
 clear hl6 hl7;have HO6:=Lh ho6;clear ho6;go_upto_region 7 with((at_builtin;refine apD slStrE rfl _ _ rfl w0.heap.size _ _ (drf _) 1 _ _ _ HOw3.o rfl rfl rfl rfl hN3 (by decide) hB3 ?_;intro v6 w6 ho6 hg6);(obtain⟨p6,c6,e6,hO6⟩:=sown_moreS (more:=[m]) HO6.o ho6);subst e6;have HP6:=Lh (HJ1.o.push hgo hgs hO6 hg6);have HT6:=Lh (((HTx.o.grown HJ1.o.own (by decide) hg6).set_other (a:=⟨go,0,none⟩) (HTx.o.ne_type HJ1.o.box (by decide)) (.slice p6 o6.length c6)));have z0:=(HJ1.o.box.grown HJ1.o.own (by decide) hg6).arr.k 0 rfl;have z1:=(HJ1.o.box.grown HJ1.o.own (by decide) hg6).arr.free 0;have z2:=(HJ1.o.box.grown HJ1.o.own (by decide) hg6).arr.lt;clear ho6 hg6 hO6)
 generalize w6.setCell ⟨go,0,none⟩ (.slice p6 o6.length c6)=w4 at *;clear q0 q1 sq z0 z1 z2 hB3;have u0:=HP6.o.box.arr.k 0 rfl;have u1:=HP6.o.sheet.arr.k 0 rfl;have us:=HP6.o.box.arr.lt;have ut:=HP6.o.sheet.arr.lt;obtain⟨t0,t1,t2,tl⟩:=HT6.o.arr.c3;have HBW:=Lh HP6.o.world;go_upto_region 7 with fail;refine wlo 5 fun hcur=>?_;repeat(first|refine lxq ?_|(refine lxl rfl ?_;go_wp2_with (first|(go_at_call 119;(with_reducible first|refine(HCl.o _ (bvo HBW.o hcur)).mono ?_|refine(HCd.o _ HBW.o).mono ?_);rintro e w5 ⟨v5,rfl,ho5,hb5⟩;have HO5:=Lh ho5;replace hcur:Be w4 w5:=below_new_over hcur (by first|exact hb5|exact hb5.mono (by simp));clear ho5 hb5));refine⟨iov (by first|exact hcur|exact hcur.alloc hcur.size _),?_⟩))
 refine lxe ?_;have H5:=Lh (HP6.o.over hcur);clear hcur u0 u1 us ut t0 t1 t2 tl;obtain⟨o7,ho7⟩:∃ o7,o7=o6++sn:=⟨_,rfl⟩;have HO7:=Lh ho7;have HR5:=Lh HO5.o.row;have HOw5:=Lh H5.o.own;have hN5:o6.length+sn.length≤1099511627776:=by omega
 have hB5:=H5.o.world.size;clear ho7;go_wp2_with (at_builtin;refine wpList_append_old slStrE rfl _ _ rfl w0.heap.size _ _ _ HOw5.o rfl _ _ _ HR5.o rfl (onesS _) hN5 (by decide) hB5 ?_;intro v7 w7 ho7 hg7;(obtain⟨p7,c7,e7,hO7⟩:=sown_moreS (more:=sn) HO7.o ho7);subst e7;have HP7:=Lh (H5.o.push hgo hgs hO7 hg7);have z0:=(H5.o.box.grown H5.o.own (by decide) hg7).arr.k 0 rfl;have z1:=(H5.o.box.grown H5.o.own (by decide) hg7).arr.free 0;have z2:=(H5.o.box.grown H5.o.own (by decide) hg7).arr.lt;clear ho7 hg7 hO7);go_roundw
 case rel=>exact⟨j+1,p7,c7,hlt,by go_num,o7,by rw [HO7.o,HO6.o,HOj.o,HSu.o,HSn.o,if_neg hj0];simp only [List.append_assoc],HP7⟩
 simp [intOf];omega
end
section
theorem bareB_mk(k n:Int)(sv:Value)(s:List BlL):bareB (.mk k n sv s)=.mk k n (bareL s):=by unfold bareB;rfl
theorem seen_succ(l:List VertM){xs:List BlL}{j:Nat}{x:BlL}(h:xs[j]? = some x):seenAll l (bareL (xs.take (j+1)))=seenAll l (bareL (xs.take j))++seenOne l (bareB x):=by rw [take_one h,bareL_snoc,seenAll_append,seenAll_one]
theorem seen_le(l:List VertM){xs:List BlL}(j:Nat):(seenAll l (bareL (xs.take j))).length≤(seenAll l (bareL xs)).length:=by
 have h:bareL xs=bareL (xs.take j)++bareL (xs.drop j):=by rw [bareL_map,bareL_map,bareL_map,← List.map_append,List.take_append_drop]
 rw [h,seenAll_append,List.length_append];omega
def BkRel(w:World)(go gs:Nat)(s:Option Addr)(l:List VertM)(xs:List BlL)(v14:Value)(wr:World):Prop:=∃(j:Nat) (p:Option Addr) (c:Nat),j≤xs.length∧v14=.int .i64 j∧∃ oj:List ByteArray,oj=seenAll l (bareL (xs.take j))∧Hid (OutAt wr w go gs s p c oj)
attribute [local irreducible] seenJoin seenAll seenOne bareL bareB
theorem blocks_any(l:List VertM)(R:List (Nat × Nat))(s:Option Addr):∀(N:Nat) (v:Value) (xs:List BlL) (w:World),SizeOf.sizeOf xs<N→GRow encBl 3 w v xs→BIns (fun _=>True) w xs→ShV w s l R→(seenAll l (bareL xs)).length≤1000000 →
  Calls Tryz.prog 119 #[.pointer s,v] w (OwnRes encS1 1 9 w (seenAll l (bareL xs)))
 | 0,v,xs,w,hs,_,_,_,_=>absurd hs (Nat.not_lt_zero _)
 | N+1,v,xs,w,hs,hv,hi,hS,hlen=>by
  have HIH:=Lh (blocks_any l R s N);obtain⟨a,cap,rfl,h1,h2,hc⟩:=hv.at encBl_len;unfold maxLen at h2;have HC:=Lh hc;have HI:=Lh hi;have HSh:=Lh hS;have HS:=Lh hs;have HLn:=Lh hlen;have HSb:=Lh (arrT_new w [.pointer s] 90);have HN1:=Lh (bnew (w:=w) (.cells #[.pointer s] 90));clear hv hi hc hs hS hlen;go_enter Tryz.func119,Tryz.ntmps119;go_upto_region 2 with fail;have HOb:=Lh (arrT_new (w.alloc (.cells #[.pointer s] 90)) [.slice none 0 0] 69);have HN2:=Lh (bnew (w:=w.alloc (.cells #[.pointer s] 90)) (.cells #[.slice none 0 0] 69));have hgo:(w.alloc (.cells #[.pointer s] 90)).heap.size=w.heap.size+1:=by simp
  have H0:Hid (OutAt ((w.alloc (.cells #[.pointer s] 90)).alloc (.cells #[.slice none 0 0] 69)) w (w.heap.size+1) w.heap.size s none 0 []):=Lh ⟨by have:=HOb.o;rw [hgo] at this;exact this,gown_nil _ _,HSb.o.over HN2.o,bvo HN1.o HN2.o⟩;generalize (w.alloc (.cells #[.pointer s] 90)).alloc (.cells #[.slice none 0 0] 69)=w0 at *;clear hgo;go_wp2;go_loopw [14] (fun v14 wr=>BkRel w (w.heap.size+1) w.heap.size s l xs v14 wr) (fun v14 _=>xs.length - (intOf v14).toNat)
  case atStart=>exact⟨0,none,0,Nat.zero_le _,rfl,[],by rw [List.take_zero,bareL_nil,seenAll_nil],H0⟩
  obtain⟨j,pj,cj,hj,rfl,oj,hoj,HJ⟩:=hrel;rename World=>wr;have HOj:=Lh hoj
  by_cases hlt:j<xs.length
  rotate_left
  · obtain rfl:j=xs.length:=(by omega);obtain⟨r0,hgl⟩:=HJ.o.box.arr.c1;have HE:Hid (seenAll l (bareL xs)=oj):=Lh (by rw [hoj,List.take_length]);clear hoj;go_wp2;go_ret;exact⟨_,rfl,by rw [HE.o];exact HJ.o.own,HJ.o.world⟩
  obtain⟨b,off,rfl,sb,hcb⟩:=HC.o.resolve_left (by omega);obtain⟨⟨kd,nm,sv,sub⟩,hx⟩:=gol hlt;have hr:=hcb j _ hx wr HJ.o.world;have sx:=hr.1;have hm:=List.mem_of_getElem? hx;have hin:=bin_mk.1 (bins_mem HI.o hm);obtain⟨a',cap',esv,_,_,_⟩:=hin.1.at encBl_len;subst esv;have x0:wr.cell? ⟨b,off+j*3,none⟩=some (.int .i64 kd):=hr.2 0 _ rfl;have x1:wr.cell? ⟨b,off+j*3+1,none⟩=some (.int .i64 nm):=hr.2 1 _ rfl;have x2:wr.cell? ⟨b,off+j*3+2,none⟩=some (.slice a' sub.length cap'):=hr.2 2 _ rfl;have HSub:=Lh hin.1;have HSin:=Lh hin.2.2.2;have HSz:Hid (SizeOf.sizeOf sub<N):=Lh (by have:=size_sub hm;have:=HS.o;omega);have HSu:=Lh (seen_succ l hx);have hlj:oj.length+(seenOne l (bareB (.mk kd nm (.slice a' sub.length cap') sub))).length≤1000000:=by have h9:=seen_le l (xs:=xs) (j+1);rw [HSu.o,List.length_append,← hoj] at h9;have:=HLn.o;omega
  clear hcb hx hr hin hm hoj
  by_cases k2:kd=2
  ·
   subst k2;go_upto_region 6 with fail;have HK:=Lh (anw wr #[.int .i64 2,.int .i64 nm,.slice a' sub.length cap'] 251);have HNw:=Lh (bnew (w:=wr) (.cells #[.int .i64 2,.int .i64 nm,.slice a' sub.length cap'] 251));have HJ1:=Lh (HJ.o.over HNw.o);generalize wr.alloc (.cells #[.int .i64 2,.int .i64 nm,.slice a' sub.length cap'] 251)=w3 at *;clear x0 x1 x2 sx;have hgl:=HJ1.o.box.arr.lt;have hsl:=HJ1.o.sheet.arr.lt;have r0:=HJ1.o.box.arr.k 0 rfl;have r1:=HJ1.o.sheet.arr.k 0 rfl;obtain⟨y0,y1,y2,sy⟩:=HK.o.c3;have HMk:Hid (seenOne l (bareB (.mk 2 nm (.slice a' sub.length cap') sub))=markA :: (seenJoin l markS true (bareL sub)++[markE])):=Lh (by rw [bareB_mk,seenOne_mk];simp);have hlen2:oj.length+(seenJoin l markS true (bareL sub)).length+2≤1000000:=(by have h9:=hlj;rw [HMk.o] at h9;simp only [List.length_cons,List.length_append,List.length_nil] at h9;omega);go_wp2_with fail;refine(oddFn_any N l R w _ _ s 2 nm (.slice a' sub.length cap') sub markS pj cj oj _ HIH.o HSz.o (by omega) (by omega) HJ1.o HSh.o HSub.o HSin.o hlen2).mono ?_;rintro e w5 ⟨rfl,p5,c5,h5⟩;have H5:=Lh h5;clear h5;go_wp2;go_roundw
   case rel=>exact⟨j+1,p5,c5,hlt,by go_num,_,by rw [HSu.o,HOj.o,HMk.o],H5⟩
   simp [intOf];omega
  by_cases k3:kd=3
  ·
   subst k3;go_upto_region 6 with fail;have HK:=Lh (anw wr #[.int .i64 3,.int .i64 nm,.slice a' sub.length cap'] 251);have HNw:=Lh (bnew (w:=wr) (.cells #[.int .i64 3,.int .i64 nm,.slice a' sub.length cap'] 251));have HJ1:=Lh (HJ.o.over HNw.o);generalize wr.alloc (.cells #[.int .i64 3,.int .i64 nm,.slice a' sub.length cap'] 251)=w3 at *;clear x0 x1 x2 sx;have hgl:=HJ1.o.box.arr.lt;have hsl:=HJ1.o.sheet.arr.lt;have r0:=HJ1.o.box.arr.k 0 rfl;have r1:=HJ1.o.sheet.arr.k 0 rfl;obtain⟨y0,y1,y2,sy⟩:=HK.o.c3;have HMk:Hid (seenOne l (bareB (.mk 3 nm (.slice a' sub.length cap') sub))=markA :: (seenJoin l markT true (bareL sub)++[markE])):=Lh (by rw [bareB_mk,seenOne_mk];simp);have hlen2:oj.length+(seenJoin l markT true (bareL sub)).length+2≤1000000:=(by have h9:=hlj;rw [HMk.o] at h9;simp only [List.length_cons,List.length_append,List.length_nil] at h9;omega);go_wp2_with fail;refine(oddFn_any N l R w _ _ s 3 nm (.slice a' sub.length cap') sub markT pj cj oj _ HIH.o HSz.o (by omega) (by omega) HJ1.o HSh.o HSub.o HSin.o hlen2).mono ?_;rintro e w5 ⟨rfl,p5,c5,h5⟩;have H5:=Lh h5;clear h5;go_wp2;go_roundw
   case rel=>exact⟨j+1,p5,c5,hlt,by go_num,_,by rw [HSu.o,HOj.o,HMk.o],H5⟩
   simp [intOf];omega
  by_cases k4:kd=4
  ·
   subst k4;go_upto_region 6 with fail;have HK:=Lh (anw wr #[.int .i64 4,.int .i64 nm,.slice a' sub.length cap'] 251);have HNw:=Lh (bnew (w:=wr) (.cells #[.int .i64 4,.int .i64 nm,.slice a' sub.length cap'] 251));have HJ1:=Lh (HJ.o.over HNw.o);generalize wr.alloc (.cells #[.int .i64 4,.int .i64 nm,.slice a' sub.length cap'] 251)=w3 at *;clear x0 x1 x2 sx;have hgl:=HJ1.o.box.arr.lt;have hsl:=HJ1.o.sheet.arr.lt;have r0:=HJ1.o.box.arr.k 0 rfl;have r1:=HJ1.o.sheet.arr.k 0 rfl;obtain⟨y0,y1,y2,sy⟩:=HK.o.c3;have HM4:Hid (seenOne l (bareB (.mk 4 nm (.slice a' sub.length cap') sub))=seenAll l (bareL sub)):=Lh (by rw [bareB_mk,seenOne_mk];simp);rw [HM4.o] at hlj;have HCl:Hid (∀(W:World),Be w3 W→Calls Tryz.prog 119 #[.pointer s,.slice a' sub.length cap'] W (OwnRes encS1 1 9 W (seenAll l (bareL sub)))):=Lh fun W hW=>HIH.o _ sub W HSz.o (HSub.o.over (bvo HJ1.o.world hW)) (HSin.o.over (bvo HJ1.o.world hW)) (HSh.o.over (bvo HJ1.o.world hW)) (by omega);obtain⟨sn,hsn⟩:∃ sn,seenAll l (bareL sub)=sn:=⟨_,rfl⟩;rw [hsn] at HCl HM4 hlj;clear hsn;go_upto_region 12 with fail;refine wlo 5 fun hcur=>?_;(repeat(first|refine lxq ?_|(refine lxl rfl ?_;go_wp2_with (first|(go_at_call 119;(with_reducible refine(HCl.o _ hcur).mono ?_);rintro e w5 ⟨v5,rfl,ho5,hb5⟩;have HO5:=Lh ho5;replace hcur:=bvo hcur hb5;clear ho5 hb5));refine⟨iov (by first|exact hcur|exact hcur.alloc hcur.size _),?_⟩)));refine lxe ?_;have H5:=Lh (HJ1.o.over hcur);clear hcur r0 r1 hgl hsl y0 y1 y2 sy;obtain⟨o7,ho7⟩:∃ o7,o7=oj++sn:=⟨_,rfl⟩;have HO7:=Lh ho7;have HR5:=Lh HO5.o.row;have HOw5:=Lh H5.o.own;have hN5:oj.length+sn.length≤1099511627776:=(by omega);have hB5:=H5.o.world.size;clear ho7;go_wp2_with (at_builtin;refine wpList_append_old slStrE rfl _ _ rfl w.heap.size _ _ _ HOw5.o rfl _ _ _ HR5.o rfl (onesS _) hN5 (by decide) hB5 ?_;intro v7 w7 ho7 hg7;(obtain⟨p7,c7,e7,hO7⟩:=sown_moreS (more:=sn) HO7.o ho7);subst e7;have HP7:=Lh (H5.o.push (by omega) (by omega) hO7 hg7);have z0:=(H5.o.box.grown H5.o.own (by decide) hg7).arr.k 0 rfl;have z1:=(H5.o.box.grown H5.o.own (by decide) hg7).arr.free 0;have z2:=(H5.o.box.grown H5.o.own (by decide) hg7).arr.lt;clear ho7 hg7 hO7);go_roundw
   case rel=>exact⟨j+1,p7,c7,hlt,by go_num,o7,by rw [HSu.o,← HOj.o,HM4.o];exact HO7.o,HP7⟩
   simp [intOf];omega
  by_cases k1:kd=1
  rotate_left
  ·
   skip
   have HM0:Hid (seenOne l (bareB (.mk kd nm (.slice a' sub.length cap') sub))=[]):=Lh (by rw [bareB_mk,seenOne_mk,if_neg k1,if_neg k4,if_neg k2,if_neg k3]);have g1:(kd == 1)=false:=(by rw [beq_eq_false_iff_ne];exact k1);have g2:(kd == 2)=false:=(by rw [beq_eq_false_iff_ne];exact k2);have g3:(kd == 3)=false:=(by rw [beq_eq_false_iff_ne];exact k3);have g4:(kd == 4)=false:=(by rw [beq_eq_false_iff_ne];exact k4);go_upto_region 6 with fail;have HK:=Lh (anw wr #[.int .i64 kd,.int .i64 nm,.slice a' sub.length cap'] 251);have HNw:=Lh (bnew (w:=wr) (.cells #[.int .i64 kd,.int .i64 nm,.slice a' sub.length cap'] 251));have HJ1:=Lh (HJ.o.over HNw.o);generalize wr.alloc (.cells #[.int .i64 kd,.int .i64 nm,.slice a' sub.length cap'] 251)=w3 at *;clear x0 x1 x2 sx;have hgl:=HJ1.o.box.arr.lt;have hsl:=HJ1.o.sheet.arr.lt;have r0:=HJ1.o.box.arr.k 0 rfl;have r1:=HJ1.o.sheet.arr.k 0 rfl;obtain⟨y0,y1,y2,sy⟩:=HK.o.c3;go_wp2;go_roundw
   case rel=>exact⟨j+1,pj,cj,hlt,by go_num,oj,by rw [HSu.o,← HOj.o,HM0.o,List.append_nil],HJ1⟩
   simp [intOf];omega
  subst k1;go_upto_region 6 with fail;have HK:=Lh (anw wr #[.int .i64 1,.int .i64 nm,.slice a' sub.length cap'] 251);have HNw:=Lh (bnew (w:=wr) (.cells #[.int .i64 1,.int .i64 nm,.slice a' sub.length cap'] 251));have HJ1:=Lh (HJ.o.over HNw.o);generalize wr.alloc (.cells #[.int .i64 1,.int .i64 nm,.slice a' sub.length cap'] 251)=w3 at *;clear x0 x1 x2 sx;have hgl:=HJ1.o.box.arr.lt;have hsl:=HJ1.o.sheet.arr.lt;have r0:=HJ1.o.box.arr.k 0 rfl;have r1:=HJ1.o.sheet.arr.k 0 rfl;obtain⟨y0,y1,y2,sy⟩:=HK.o.c3
  by_cases hv1:0≤nm∧nm<(l.length:Int)
  rotate_left
  ·
   skip
   have HM1:Hid (seenOne l (bareB (.mk 1 nm (.slice a' sub.length cap') sub))=[]):=Lh (by rw [bareB_mk,seenOne_mk,if_pos rfl,if_neg hv1]);clear hlj;go_wp2_with fail;refine(svertN_any s nm l R _ (HSh.o.over HJ1.o.world) hv1).mono ?_;rintro e w4 ⟨rfl,hb4⟩;have HJ4:=Lh (HJ1.o.over hb4);clear hb4 r0 r1 hgl hsl y0 y1 y2 sy hv1;go_upto_region 9 with fail;have HJ5:=Lh (HJ4.o.over (bnew (w:=w4) (.cells (cX noVert) 101)));generalize w4.alloc (.cells (cX noVert) 101)=w5 at *;go_wp2;go_roundw
   case rel=>exact⟨j+1,pj,cj,hlt,by go_num,oj,by rw [HSu.o,← HOj.o,HM1.o,List.append_nil],HJ5⟩
   simp [intOf];omega
  skip
  obtain⟨i,rfl⟩:∃ i:Nat,nm=(i:Int):=⟨nm.toNat,by omega⟩;obtain⟨x,hx⟩:=gol (xs:=l) (i:=i) (by omega);have HM1:Hid (seenOne l (bareB (.mk 1 (i:Int) (.slice a' sub.length cap') sub))=[x.text]):=Lh (by rw [bareB_mk,seenOne_mk,if_pos rfl,if_pos hv1,Int.toNat_natCast,textAt_get hx]);rw [HM1.o] at hlj;have hl1:([x.text]:List ByteArray).length=1:=rfl;have hN5:oj.length+1≤1099511627776:=by omega
  have HX:=Lh hx;clear hl1 hlj hx hv1;go_wp2_with fail;refine(svertV_any s i x l R _ (HSh.o.over HJ1.o.world) HX.o).mono ?_;rintro e w4 ⟨rfl,hb4⟩;have HJ4:=Lh (HJ1.o.over hb4);clear hb4 r0 r1 hgl hsl y0 y1 y2 sy;go_upto_region 9 with fail;have HV:=Lh (anw w4 (cX x) 101);have HJ5:=Lh (HJ4.o.over (bnew (w:=w4) (.cells (cX x) 101)));generalize w4.alloc (.cells (cX x) 101)=w5 at *;have t7:=HV.o.k 7 rfl;have ts:=HV.o.lt;have r0:=HJ5.o.box.arr.k 0 rfl;have r2:=HJ5.o.box.arr.free 0;have hgl:=HJ5.o.box.arr.lt;have hB5:=HJ5.o.world.size;have HOw5:=Lh HJ5.o.own;obtain⟨o7,ho7⟩:∃ o7,o7=oj++[x.text]:=⟨_,rfl⟩;have HO7:=Lh ho7;clear ho7;go_wp2_with ((at_builtin;refine apD slStrE rfl _ _ rfl w.heap.size _ _ (drf _) 1 _ _ _ HOw5.o rfl rfl rfl rfl hN5 (by decide) hB5 ?_;intro v7 w7 ho7 hg7);(obtain⟨p7,c7,e7,hO7⟩:=sown_moreS (more:=[x.text]) HO7.o ho7);subst e7;have HP7:=Lh (HJ5.o.push (by omega) (by omega) hO7 hg7);have z0:=(HJ5.o.box.grown HJ5.o.own (by decide) hg7).arr.k 0 rfl;have z1:=(HJ5.o.box.grown HJ5.o.own (by decide) hg7).arr.free 0;have z2:=(HJ5.o.box.grown HJ5.o.own (by decide) hg7).arr.lt;clear ho7 hg7 hO7);go_roundw
  case rel=>exact⟨j+1,p7,c7,hlt,by go_num,o7,by rw [HSu.o,← HOj.o,HM1.o];exact HO7.o,HP7⟩
  simp [intOf];omega
end
section
variable{R:List (Nat × Nat)}{α:Type}
def sumN:List Nat→Nat
 | []=>0
 | x :: l=>x+sumN l
theorem sumN_append:∀ a b:List Nat,sumN (a++b)=sumN a+sumN b
 | [],b=>by simp [sumN]
 | x :: a,b=>by rw [List.cons_append,sumN,sumN,sumN_append a b];omega
theorem count_one{β:Type}(P:α→β→Bool)(x:β):∀ {hs:List α},hs.Pairwise (fun a b=>∀ x,¬ (P a x=true∧P b x=true))→hs.countP (fun h=>P h x)≤1
 | [],_=>by simp
 | h :: hs,hp=>by
  obtain⟨h1,h2⟩:=List.pairwise_cons.1 hp;have ih:=count_one P x h2;rw [List.countP_cons];cases hx:P h x with
  | false=>simp;exact ih
  | true =>have:hs.countP (fun h=>P h x)=0:=List.countP_eq_zero.2 fun g hg hgx=>h1 g hg x ⟨hx,hgx⟩;simp [this]
theorem sum_count{β:Type}(P:α→β→Bool){hs:List α}(hp:hs.Pairwise (fun a b=>∀ x,¬ (P a x=true∧P b x=true))):∀ xs:List β,sumN (hs.map fun h=>(xs.filter (P h)).length)≤xs.length
 | []=>by
  have:∀ hs:List α,sumN (hs.map fun h=>(([]:List β).filter (P h)).length)=0:=by
   intro hs;induction hs with
   | nil=>rfl
   | cons a hs ih=>rw [List.map_cons,sumN,ih];rfl
  rw [this];exact Nat.zero_le _
 | x :: xs=>by
  have ih:=sum_count P hp xs;have h1:=count_one P x hp;have:∀ hs:List α,sumN (hs.map fun h=>((x :: xs).filter (P h)).length)=sumN (hs.map fun h=>(xs.filter (P h)).length)+hs.countP (fun h=>P h x):=by
   intro hs;induction hs with
   | nil=>rfl
   | cons a hs ih2 =>rw [List.map_cons,List.map_cons,sumN,sumN,ih2,List.countP_cons,List.filter_cons];cases P a x <;> simp <;> omega
  rw [this,List.length_cons];omega
theorem sides_sum(R:List (Nat × Nat))(l:List Nat):sumN ((sidesM R l).map List.length)≤l.length:=by
 unfold sidesM;rw [List.map_map];have hp:(headsM R l l.length).Pairwise (fun a b=>∀ x,¬ (nearD R l a x=true∧nearD R l b x=true)):=by unfold headsM;refine((List.pairwise_lt_range (n:=l.length)).filter _).imp_of_mem ?_;intro a b _ hb hab x hx;have hb2:=headB_iff.1 (List.mem_filter.1 hb).2;exact hb2 a hab ((nearD_iff.1 hx.1).trans (nearD_iff.1 hx.2).symm)
 have:=sum_count (nearD R l) hp (List.range l.length);rw [List.length_range] at this;exact this
theorem sides_pos{l:List Nat}{s:List Nat}(hs:s∈sidesM R l):0<s.length:=by unfold sidesM at hs;obtain⟨i,hi,rfl⟩:=List.mem_map.1 hs;have hi2:=(mem_heads.1 hi).1;exact List.length_pos_of_mem (mem_sideM.2 (.self hi2))
theorem sides_some{l:List Nat}(h:0<l.length):0<(sidesM R l).length:=by unfold sidesM;rw [List.length_map];exact List.length_pos_of_mem (a:=0) (mem_heads.2 ⟨h,headB_iff.2 fun k hk=>absurd hk (by omega)⟩)
theorem pieces_sum(R:List (Nat × Nat))(l:List Nat):∀ k,k≤l.length→sumN ((piecesTo R l k).1.map List.length)=(piecesTo R l k).2∧∀ p∈(piecesTo R l k).1,0<p.length∧p.length≤k
 | 0,_=>⟨rfl,fun p hp=>absurd hp (List.not_mem_nil)⟩
 | k+1,hk=>by
  obtain⟨h1,h2⟩:=pieces_sum R l k (by omega);have h3:=pieces_at R l k
  by_cases h:k+1=l.length∨cutB R l (k+1)=true
  ·
   rw [pieces_yes h];have hl:((l.take (k+1)).drop (piecesTo R l k).2).length=k+1 - (piecesTo R l k).2:=(by rw [List.length_drop,List.length_take];omega);refine⟨?_,fun p hp => ?_⟩
   · show sumN (((piecesTo R l k).1++[(l.take (k+1)).drop (piecesTo R l k).2]).map List.length)=k+1;rw [List.map_append,sumN_append,h1,List.map_cons,List.map_nil,sumN,sumN,hl];omega
   rcases List.mem_append.1 hp with hp|hp
   · have:=h2 p hp;omega
   rw [List.mem_singleton.1 hp,hl];omega
  rw [pieces_no h];exact⟨h1,fun p hp=>by have:=h2 p hp;omega⟩
theorem seenAll_sum(l:List VertM):∀ bs:List BlkM,(seenAll l bs).length=sumN (bs.map fun b=>(seenOne l b).length)
 | []=>by rw [seenAll_nil];rfl
 | b :: bs=>by rw [seenAll_cons,List.length_append,seenAll_sum l bs];rfl
theorem seenJoin_sum(l:List VertM)(m:ByteArray):∀(bs:List BlkM) (f:Bool),(seenJoin l m f bs).length≤sumN (bs.map fun b=>(seenOne l b).length)+bs.length
 | [],f=>by rw [seenJoin_nil];exact Nat.zero_le _
 | b :: bs,f=>by have:=seenJoin_sum l m bs false;rw [seenJoin_cons,List.length_append,List.length_append,List.map_cons,sumN,List.length_cons];cases f <;> simp <;> omega
theorem seen_line(l:List VertM)(i:Nat):(seenOne l (lineB i)).length≤1:=by unfold lineB;rw [seenOne_mk,if_pos rfl];split <;> simp
theorem sum_lines(l:List VertM):∀ t:List Nat,sumN ((t.map lineB).map fun b=>(seenOne l b).length)≤t.length
 | []=>Nat.le_refl _
 | i :: t=>by have h1:=sum_lines l t;have h2:=seen_line l i;rw [List.map_cons,List.map_cons,sumN,List.length_cons];omega
theorem sum_le(f g:α→Nat):∀ xs:List α,(∀ x∈xs,f x+3≤4*g x)→sumN (xs.map f)+3*xs.length≤4*sumN (xs.map g)
 | [],_=>Nat.le_refl _
 | x :: xs,h=>by have h1:=h x (List.mem_cons_self ..);have h2:=sum_le f g xs fun y hy=>h y (List.mem_cons_of_mem _ hy);rw [List.map_cons,List.map_cons,sumN,sumN,List.length_cons];omega
theorem seenJoin_first(l:List VertM)(m:ByteArray){bs:List BlkM}(h:0<bs.length):(seenJoin l m true bs).length+1≤sumN (bs.map fun b=>(seenOne l b).length)+bs.length:=by
 cases bs with
 | nil=>exact absurd h (by simp)
 | cons b bs =>have:=seenJoin_sum l m bs false;rw [seenJoin_cons,List.length_append,List.length_append,List.map_cons,sumN,List.length_cons];simp;omega
theorem things_len(l s:List Nat):(thingsM l s).length=s.length:=by unfold thingsM;rw [List.length_map]
theorem piece_seen(l:List VertM)(R:List (Nat × Nat))(F:List Nat→List BlkM)(p:List Nat)(hp:0<p.length)(hF:∀ t:List Nat,t.length<p.length→0<t.length→(seenAll l (F t)).length+3≤4*t.length):(seenOne l (pieceM R F p)).length+3≤4*p.length:=by
 by_cases h1:p.length=1
 · unfold pieceM;rw [if_pos h1];have:=seen_line l (p.getD 0 0);omega
 by_cases h2:(sidesM R p).length=1
 · unfold pieceM;rw [if_neg h1,if_pos h2,seenOne_mk];rw [if_neg (by decide),if_neg (by decide),if_neg (by decide),if_pos rfl];have h3:=seenJoin_first l markT (bs:=p.map lineB) (by rw [List.length_map];exact hp);have h4:=sum_lines l p;rw [List.length_map] at h3;rw [List.length_cons,List.length_append,List.length_singleton];omega
 unfold pieceM;rw [if_neg h1,if_neg h2,seenOne_mk];rw [if_neg (by decide),if_neg (by decide),if_pos rfl];have h0:=sides_some (R:=R) hp;have h3:=seenJoin_first l markS (bs:=(sidesM R p).map fun s=>BlkM.mk 4 0 (F (thingsM p s))) (by rw [List.length_map];exact h0);rw [List.length_map,List.map_map] at h3;have h4:=sum_le (fun s=>(seenOne l (BlkM.mk 4 0 (F (thingsM p s)))).length) List.length (sidesM R p) fun s hs=>by rw [seenOne_mk,if_neg (by decide),if_pos rfl];have h6:=sides_less h2 hs;have h7:=sides_pos hs;have h8:=hF (thingsM p s) (by rw [things_len];exact h6) (by rw [things_len];exact h7);rw [things_len] at h8;exact h8
 have h5:=sides_sum R p;have h6:sumN ((sidesM R p).map ((fun b=>(seenOne l b).length) ∘ fun s=>BlkM.mk 4 0 (F (thingsM p s))))=sumN ((sidesM R p).map fun s=>(seenOne l (BlkM.mk 4 0 (F (thingsM p s)))).length):=rfl;rw [h6] at h3;rw [List.length_cons,List.length_append,List.length_singleton];omega
theorem pieces_end{t:List Nat}(h:0<t.length):(piecesM R t)≠[]∧sumN ((piecesM R t).map List.length)=t.length:=by
 obtain⟨k,hk⟩:∃ k,t.length=k+1:=⟨t.length - 1,by omega⟩;have h1:=pieces_yes (R:=R) (l:=t) (k:=k) (.inl hk.symm);have h2:=(pieces_sum R t t.length (Nat.le_refl _)).1;unfold piecesM;refine⟨?_,?_⟩
 · rw [hk,h1];simp
 rw [h2,hk,h1]
theorem seen_bound(l:List VertM)(R:List (Nat × Nat)):∀(f:Nat) (t:List Nat),t.length<f→0<t.length→(seenAll l (blkM R f t)).length+3≤4*t.length
 | 0,t,h,_=>absurd h (Nat.not_lt_zero _)
 | f+1,t,h,h0=>by
  obtain⟨h1,h2⟩:=pieces_end (R:=R) h0;rw [blkM,seenAll_sum,List.map_map];have h3:=sum_le (fun p=>(seenOne l (pieceM R (blkM R f) p)).length) List.length (piecesM R t) fun p hp=>by have h4:=(pieces_sum R t t.length (Nat.le_refl _)).2 p hp;exact piece_seen l R (blkM R f) p h4.1 fun u hu hu0=>seen_bound l R f u (by omega) hu0
  have h5:0<(piecesM R t).length:=List.length_pos_iff.2 h1;have h6:sumN ((piecesM R t).map ((fun b=>(seenOne l b).length) ∘ pieceM R (blkM R f)))=sumN ((piecesM R t).map fun p=>(seenOne l (pieceM R (blkM R f) p)).length):=rfl;rw [h6];omega
theorem oddL_sum:∀ bs:List BlkM,oddL bs=sumN (bs.map oddB)
 | []=>by rw [oddL_nil];rfl
 | b :: bs=>by rw [oddL_cons,oddL_sum bs];rfl
theorem odd_lines:∀ t:List Nat,oddL (t.map lineB)=0
 | []=>oddL_nil
 | i :: t=>by rw [List.map_cons,oddL_cons,odd_lines t];unfold lineB;rw [odd_1]
theorem sum_le1(f g:α→Nat):∀ xs:List α,(∀ x∈xs,f x+1≤g x)→sumN (xs.map f)+xs.length≤sumN (xs.map g)
 | [],_=>Nat.le_refl _
 | x :: xs,h=>by have h1:=h x (List.mem_cons_self ..);have h2:=sum_le1 f g xs fun y hy=>h y (List.mem_cons_of_mem _ hy);rw [List.map_cons,List.map_cons,sumN,sumN,List.length_cons];omega
theorem piece_odd(R:List (Nat × Nat))(F:List Nat→List BlkM)(p:List Nat)(hp:0<p.length)(hF:∀ t:List Nat,t.length<p.length→0<t.length→oddL (F t)+1≤t.length):oddB (pieceM R F p)+1≤p.length:=by
 by_cases h1:p.length=1
 · unfold pieceM;rw [if_pos h1];unfold lineB;rw [odd_1];omega
 by_cases h2:(sidesM R p).length=1
 · unfold pieceM;rw [if_neg h1,if_pos h2,odd_23 (.inr rfl),odd_lines];omega
 unfold pieceM;rw [if_neg h1,if_neg h2,odd_23 (.inl rfl),oddL_sum,List.map_map];have h0:=sides_some (R:=R) hp;have h4:=sum_le1 (fun s=>oddB (BlkM.mk 4 0 (F (thingsM p s)))) List.length (sidesM R p) fun s hs=>by rw [odd_0 (by decide) (by decide)];have h6:=sides_less h2 hs;have h7:=sides_pos hs;have h8:=hF (thingsM p s) (by rw [things_len];exact h6) (by rw [things_len];exact h7);rw [things_len] at h8;exact h8
 have h5:=sides_sum R p;have h6:sumN ((sidesM R p).map (oddB ∘ fun s=>BlkM.mk 4 0 (F (thingsM p s))))=sumN ((sidesM R p).map fun s=>oddB (BlkM.mk 4 0 (F (thingsM p s)))):=rfl;rw [h6];omega
theorem odd_bound(R:List (Nat × Nat)):∀(f:Nat) (t:List Nat),t.length<f→0<t.length→oddL (blkM R f t)+1≤t.length
 | 0,t,h,_=>absurd h (Nat.not_lt_zero _)
 | f+1,t,h,h0=>by
  obtain⟨h1,h2⟩:=pieces_end (R:=R) h0;rw [blkM,oddL_sum,List.map_map];have h3:=sum_le1 (fun p=>oddB (pieceM R (blkM R f) p)) List.length (piecesM R t) fun p hp=>by have h4:=(pieces_sum R t t.length (Nat.le_refl _)).2 p hp;exact piece_odd R (blkM R f) p h4.1 fun u hu hu0=>odd_bound R f u (by omega) hu0
  have h5:0<(piecesM R t).length:=List.length_pos_iff.2 h1;have h6:sumN ((piecesM R t).map (oddB ∘ pieceM R (blkM R f)))=sumN ((piecesM R t).map fun p=>oddB (pieceM R (blkM R f) p)):=rfl;rw [h6];omega
end
noncomputable def lnBlk(l:List VertM)(R:List (Nat × Nat)):List BlkM:=blkM R ((aliveX l R).length+1) (aliveX l R)
noncomputable def lnSeen(l:List VertM)(R:List (Nat × Nat)):List ByteArray:=seenAll l (lnBlk l R)
noncomputable def lnOdd(l:List VertM)(R:List (Nat × Nat)):Nat:=oddL (lnBlk l R)
theorem blk_nil(R:List (Nat × Nat))(f:Nat):blkM R (f+1) []=[]:=by rw [blkM];rfl
theorem ln_few(l:List VertM)(R:List (Nat × Nat)):(lnSeen l R).length≤4*l.length∧lnOdd l R≤l.length:=by
 have h1:=aliveX_len l R;unfold lnSeen lnOdd lnBlk;rcases Nat.eq_zero_or_pos (aliveX l R).length with h|h
 · rw [List.eq_nil_of_length_eq_zero h,show([]:List Nat).length+1=0+1 from rfl,blk_nil,seenAll_nil,oddL_nil];exact⟨Nat.zero_le _,Nat.zero_le _⟩
 have h2:=seen_bound l R ((aliveX l R).length+1) (aliveX l R) (by omega) h;have h3:=odd_bound R ((aliveX l R).length+1) (aliveX l R) (by omega) h;exact⟨by omega,by omega⟩
theorem bins_true{A:Nat→Prop}{w:World}{xs:List BlL}(h:BIns A w xs):BIns (fun _=>True) w xs:=BIns.mono (fun _ _=>trivial) (fun _ _ _ h=>h) xs h
def LnRes(w:World)(l:List VertM)(R:List (Nat × Nat))(e:Ending)(w':World):Prop:=∃ v,e=.returned (.tuple #[v,.int .i64 (lnOdd l R:Int)])∧GOwn encS1 1 9 w' w.heap.size v (lnSeen l R)∧Be w w'
theorem lnres_mk{w w':World}{l:List VertM}{R:List (Nat × Nat)}{v:Value}{o:Nat}(ho:o=lnOdd l R)(h1:GOwn encS1 1 9 w' w.heap.size v (lnSeen l R))(h2:Be w w'):LnRes w l R (.returned (.tuple #[v,.int .i64 o])) w':=by subst ho;exact⟨v,rfl,h1,h2⟩
attribute [local irreducible] lnSeen lnOdd aliveX seenAll oddL blkM bareL
theorem slines_any(s:Nat)(l:List VertM)(R:List (Nat × Nat))(w:World)(h:ShAt w s l R)(hl:l.length≤65536):Calls Tryz.prog 57 #[.pointer (some ⟨s,0,none⟩)] w (LnRes w l R):=by
 have HS:=Lh h;have HF:=Lh (ln_few l R);have HA:=Lh (aliveX_len l R);clear h;go_enter Tryz.func57,Tryz.ntmps57;go_wp2_with fail;refine(srel_any s l R _ HS.o).mono ?_;rintro e w1 ⟨⟨r,rfl,hr⟩,hw⟩;obtain rfl:=hw.symm;have HR:=Lh hr;clear hr;go_wp2_with fail;refine(salive_any s l R _ HS.o hl).mono ?_;rw [sares_is];rintro e w2 ⟨v2,rfl,ho2,hb2⟩;have HO2:=Lh ho2;have HB2:=Lh hb2;have HAl:Hid (∀ i∈aliveX l R,i≤1000000):=Lh fun i hi=>by have:=aliveX_lt hi;omega
 clear ho2 hb2;go_wp2_with fail;refine(bof_any r l.length R ((aliveX l R).length+1) (aliveX l R) v2 _ (Nat.lt_succ_self _) (by have:=HA.o;omega) HAl.o (HR.o.over HB2.o) HO2.o.row).mono ?_;rintro e w3 ⟨v3,xs,rfl,hx3,hr3,hb3⟩;obtain⟨p3,c3,e3,_,_,_⟩:=hx3.own.row.at encBl_len;subst e3;have HX3:=Lh hx3;have HR3:Hid (bareL xs=lnBlk l R):=Lh hr3;have HB3:=Lh (bvo HB2.o hb3);have HSe:Hid (seenAll l (bareL xs)=lnSeen l R):=Lh (by rw [HR3.o];unfold lnSeen;rfl);have HOd:Hid (oddL (bareL xs)=lnOdd l R):=Lh (by rw [HR3.o];unfold lnOdd;rfl);clear hx3 hr3 hb3;go_wp2_with fail;refine(blocks_any l R (some ⟨s,0,none⟩) (SizeOf.sizeOf xs+1) _ xs _ (Nat.lt_succ_self _) HX3.o.own.row (bins_true HX3.o.ins) (.inl ⟨s,rfl,HS.o.over HB3.o⟩) (by rw [HSe.o];have:=HF.o.1;omega)).mono ?_;rintro e w4 ⟨v4,rfl,ho4,hb4⟩;rw [HSe.o] at ho4;have HO4:=Lh ho4;have HB4:=Lh (bvo HB3.o hb4);have HX4:=Lh (HX3.o.over hb4);have hs4:=HB3.o.size;clear ho4 hb4;go_wp2_with fail;refine(bodd_any (fun _=>True) (SizeOf.sizeOf xs+1) _ xs _ (Nat.lt_succ_self _) HX4.o.own.row (bins_true HX4.o.ins) (by rw [HOd.o];have:=HF.o.2;omega)).mono ?_;rintro e w5 ⟨rfl,hb5⟩;have HO5:=Lh ((HO4.o.over hb5).base hs4);have HB5:=Lh (bvo HB4.o hb5);clear hb5;go_wp2_with fail;refine bodyPost_ret (results_tmp2 rfl _ _ _) rfl ?_;exact lnres_mk HOd.o HO5.o HB5.o
end Go.Proofs.YtjccmcgglfncdaaGreatDoor
namespace Go.Proofs.YtjccmcgglfncdaaGreatDoor
open Go Go.RowKit
structure ChnL (l:List VertM) (R:List (Nat × Nat)) (n:Nat) (at':List Nat) (R':List (Nat × Nat)):Prop where
 chn:Chn R n at' R'
 lives:∀ i,(i<l.length∧aliveQL l i=true)↔i∈at'
 news:∀ i,i<l.length→i<n∨i∈at'
section
variable {l : List VertM} {R : List (Nat × Nat)} {n : Nat} {at' : List Nat} {R' : List (Nat × Nat)}
theorem Chn.sorted(h:Chn R n at' R'):at'.Pairwise (BeforeP R'):=by rw [List.pairwise_iff_getElem];intro i j hi hj hij;exact h.before (List.getElem?_eq_getElem hi) (List.getElem?_eq_getElem hj) hij
theorem order_pairs(L:List (Nat × Nat))(n:Nat):(orderM L n).Pairwise fun a b=>¬ BeforeP L b a:=by
 rw [List.pairwise_iff_getElem];intro i j hi hj hij hb;have h1:=order_bef (order_in (List.getElem_mem hj)) (order_in (List.getElem_mem hi)) hb;have e:∀ k (hk:k<(orderM L n).length),(orderM L n).idxOf (orderM L n)[k]=k:=fun k hk=>by have h2:=List.idxOf_lt_length_of_mem (List.getElem_mem hk);exact(List.getElem_inj (h₀:=h2) (h₁:=hk) (order_nodup L n)).1 (List.getElem_idxOf h2)
 rw [e,e] at h1;omega
theorem ChnL.alive(h:ChnL l R n at' R'):aliveX l R'=at':=by
 have hm:∀ i,i∈aliveX l R'↔i∈at':=by intro i;rw [← h.lives i];unfold aliveX;rw [List.mem_filter];exact⟨fun q=>⟨order_in q.1,q.2⟩,fun q=>⟨order_mem R' _ q.1,q.2⟩⟩
 have hn:(aliveX l R').Nodup:=by unfold aliveX;exact(order_nodup R' _).filter _
 have hp:(aliveX l R').Perm at':=(List.perm_ext_iff_of_nodup hn h.chn.nodup).2 hm;have hs:(aliveX l R').Pairwise (BeforeP R'):=by
  have h1:(aliveX l R').Pairwise fun a b=>¬ BeforeP R' b a:=by unfold aliveX;exact(order_pairs R' _).filter _
  refine(h1.and hn).imp_of_mem ?_;intro a b ha hb q;obtain⟨i,hi⟩:=List.getElem?_of_mem ((hm a).1 ha);obtain⟨j,hj⟩:=List.getElem?_of_mem ((hm b).1 hb);rcases Nat.lt_trichotomy i j with k|k|k
  · exact h.chn.before hi hj k
  · subst k;rw [hi] at hj;exact absurd (Option.some.inj hj) q.2
  exact absurd (h.chn.before hj hi k) q.1
 exact hp.eq_of_pairwise (fun a b _ _ h1 h2=>absurd (h1.trans h2) (fun q=>q.irrefl)) hs h.chn.sorted
theorem ChnL.lt(h:ChnL l R n at' R'){i:Nat}(hi:i∈at'):i<l.length:=((h.lives i).2 hi).1
theorem ChnL.firms(h:ChnL l R n at' R'):firmX l R'=at':=by unfold firmX;rw [h.alive,List.filter_eq_self];intro i hi;obtain⟨k,hk⟩:=List.getElem?_of_mem hi;exact firmB_iff.2 ⟨h.lt hi,fun j hj hne=>h.chn.alone hk (h.news j hj) hne⟩
theorem Chn.cuts(h:Chn R n at' R')(k:Nat):cutB R' at' k=true:=by
 unfold cutB;rw [List.all_eq_true];intro a ha;rw [List.all_eq_true];intro b hb;obtain⟨i,hi⟩:=List.getElem?_of_mem ha;obtain⟨j,hj⟩:=List.getElem?_of_mem hb;rw [List.getElem?_take] at hi;rw [List.getElem?_drop] at hj;split at hi
 · exact befB_iff.2 (h.before hi hj (by omega))
 cases hi
theorem Chn.piecesTo(h:Chn R n at' R'):∀ k,k≤at'.length→piecesTo R' at' k=((at'.take k).map fun x=>[x],k)
 | 0,_=>rfl
 | k+1,hk=>by rw [pieces_yes (.inr (h.cuts (k+1))),h.piecesTo k (by omega)];have hx:at'[k]? = some at'[k]:=List.getElem?_eq_getElem (by omega);show((at'.take k).map (fun x=>[x])++[(at'.take (k+1)).drop k],k+1)=_;rw [take_one hx,List.map_append,List.drop_append_of_le_length (by rw [List.length_take];omega),List.drop_of_length_le (by rw [List.length_take];omega)];rfl
theorem Chn.blocks(h:Chn R n at' R')(f:Nat):blkM R' (f+1) at'=at'.map lineB:=by rw [blkM];unfold piecesM;rw [h.piecesTo _ (Nat.le_refl _),List.take_length,List.map_map];refine List.map_congr_left fun x _ => ?_;show pieceM R' (blkM R' f) [x]=lineB x;unfold pieceM;rw [if_pos (show [x].length=1 from rfl)];rfl
theorem eg_lines(l:List VertM):∀ t:List Nat,(∀ i∈t,i<l.length)→seenAll l (t.map lineB)=t.map (textAt l)
 | [],_=>by rw [List.map_nil,seenAll_nil];rfl
 | i :: t,h=>by
  rw [List.map_cons,seenAll_cons,eg_lines l t fun j hj=>h j (List.mem_cons_of_mem _ hj)];have hi:=h i (List.mem_cons_self ..);have:seenOne l (lineB i)=[textAt l i]:=by unfold lineB;rw [seenOne_mk,if_pos rfl,if_pos ⟨by omega,by omega⟩,Int.toNat_natCast]
  rw [this];rfl
theorem ChnL.seen(h:ChnL l R n at' R'):lnSeen l R'=at'.map (textAt l)∧lnOdd l R'=0:=by unfold lnSeen lnOdd lnBlk;rw [h.alive,h.chn.blocks];exact⟨eg_lines l at' fun i hi=>h.lt hi,odd_lines at'⟩
theorem ChnL.done(h:ChnL l R n at' R'){file:VidM}{id:PidM}{want:List ByteArray}(hw:at'.map (textAt l)=want):editM l R' (aliveX l R') (firmX l R') file id 0 want (pairs ((firmX l R').map (textAt l)) want)=[]:=by
 rw [h.firms,h.alive,hw];have hlen:at'.length=want.length:=by rw [← hw,List.length_map]
 have hup:=pairs_up want want;have hkp:∀ j,j<want.length→(keptTo at' (pairs want want) want.length)[j]? = some ((at'.getD j 0:Nat):Int):=by
  intro j hj;have hm:(j,j)∈pairs want want:=by rw [pairs_self];exact List.mem_map.2 ⟨j,List.mem_range.2 hj,rfl⟩
  have h1:=(kept_at at' (pairs want want) (List.replicate want.length (-1)) hup (fun p hp=>by rw [List.length_replicate];exact(ePairs_in hp).2.1)).1 (j,j) hm;exact h1
 have hkl:=kept_length at' (pairs want want) want.length;have hgd:∀ j,j<want.length→at'[j]? = some (at'.getD j 0):=fun j hj=>by rw [List.getD_eq_getElem?_getD,List.getElem?_eq_getElem (by omega)];rfl
 show(addsTo l file id 0 (keptTo at' (pairs want want) want.length) want (killsE l at' (keptTo at' (pairs want want) want.length)) want.length).1++(List.range want.length).flatMap (edgesE R' (keptTo at' (pairs want want) want.length) _)=[];generalize keptTo at' (pairs want want) want.length=kept at hkp hkl ⊢;have hkills:killsE l at' kept=[]:=by unfold killsE;rw [List.map_eq_nil_iff,List.filter_eq_nil_iff];intro i hi;obtain⟨j,hj⟩:=List.getElem?_of_mem hi;have hjl:=(List.getElem?_eq_some_iff.1 hj).1;have h1:=hkp j (by omega);rw [List.getD_eq_getElem?_getD,hj] at h1;have h2:kept.contains (Int.ofNat i)=true:=List.contains_iff_mem.2 (List.mem_of_getElem? h1);rw [h2];decide
 rw [hkills,List.append_eq_nil_iff];refine⟨?_,?_⟩
 · unfold addsTo;rw [adds_noE];intro x hx;have hx:=List.mem_of_mem_take hx;have:=(List.of_mem_zip (a:=x.1) (b:=x.2) hx).1;obtain⟨j,hj⟩:=List.getElem?_of_mem this;have h1:=(List.getElem?_eq_some_iff.1 hj).1;rw [hkp j (by omega)] at hj;rw [← Option.some.inj hj];omega
 rw [List.flatMap_eq_nil_iff];intro j hj;have hj:=List.mem_range.1 hj;unfold edgesE;rw [if_neg];rintro⟨h0,h9⟩;have e1:kept.getD j 0=((at'.getD j 0:Nat):Int):=by rw [List.getD_eq_getElem?_getD,hkp j hj];rfl
 have e2:kept.getD (j - 1) 0=((at'.getD (j - 1) 0:Nat):Int):=by rw [List.getD_eq_getElem?_getD,hkp (j - 1) (by omega)];rfl
 rw [e1,e2] at h9;rcases h9 with h9|h9|h9
 · omega
 · omega
 rw [Int.toNat_natCast,Int.toNat_natCast] at h9;exact h9 (h.chn.before (hgd (j - 1) (by omega)) (hgd j hj) (by omega))
end
end Go.Proofs.YtjccmcgglfncdaaGreatDoor
namespace Go.Proofs.YtjccmcgglfncdaaGreatDoor
open Go Go.RowKit
variable{i j:Nat}
def negs:List Int→Nat
 | []=>0
 | x :: r=>(if 0≤x then 0 else 1)+negs r
def plc(n:Nat):List Int→Nat→List Nat
 | [],_=>[]
 | x :: r,c=>if 0≤x then x.toNat :: plc n r c else(n+c) :: plc n r (c+1)
theorem plc_len(n:Nat):∀(ks:List Int) (c:Nat),(plc n ks c).length=ks.length
 | [],_=>rfl
 | x :: r,c=>by
  unfold plc;split
  · rw [List.length_cons,plc_len n r c,List.length_cons]
  rw [List.length_cons,plc_len n r (c+1),List.length_cons]
theorem plc_get(n:Nat):∀(ks:List Int) (c j:Nat) (x:Int),ks[j]? = some x→(plc n ks c)[j]? = some (if 0≤x then x.toNat else n+c+negs (ks.take j))
 | [],_,j,x,h=>by simp at h
 | y :: r,c,0,x,h=>by
  obtain rfl:y=x:=by simpa using h
  unfold plc;split
  · rfl
  simp [negs]
 | y :: r,c,j+1,x,h=>by
  have h:r[j]? = some x:=by simpa using h
  unfold plc
  by_cases hy:0≤y
  · rw [if_pos hy,List.getElem?_cons_succ,plc_get n r c j x h,List.take_succ_cons,negs,if_pos hy,Nat.zero_add]
  rw [if_neg hy,List.getElem?_cons_succ,plc_get n r (c+1) j x h,List.take_succ_cons,negs,if_neg hy];congr 1;split
  · rfl
  omega
theorem negs_append:∀ a b:List Int,negs (a++b)=negs a+negs b
 | [],b=>by simp [negs]
 | x :: a,b=>by rw [List.cons_append,negs,negs,negs_append a b];omega
theorem negs_lt{ks:List Int}{x:Int}(hi:ks[i]? = some x)(hx:x<0)(hij:i<j):negs (ks.take i)<negs (ks.take j):=by
 have h1:ks.take j=ks.take (i+1)++(ks.take j).drop (i+1):=by
  have:ks.take (i+1)=(ks.take j).take (i+1):=by rw [List.take_take,Nat.min_eq_left (by omega)]
  rw [this,List.take_append_drop]
 rw [h1,negs_append,take_one hi,negs_append,negs,negs,if_neg (by omega)];omega
theorem negs_all{ks:List Int}{x:Int}(hi:ks[i]? = some x)(hx:x<0):negs (ks.take i)<negs ks:=by
 have h:=negs_lt (j:=ks.length) hi hx (List.getElem?_eq_some_iff.1 hi).1
 rwa [List.take_length] at h
theorem negs_find:∀(ks:List Int) (c:Nat),c<negs ks→∃(j:Nat) (x:Int),ks[j]? = some x∧x<0∧negs (ks.take j)=c
 | [],c,h=>absurd h (Nat.not_lt_zero _)
 | y :: r,c,h=>by
  rw [negs] at h
  by_cases hy:0≤y
  · rw [if_pos hy,Nat.zero_add] at h;obtain⟨j,x,h1,h2,h3⟩:=negs_find r c h;exact⟨j+1,x,by simpa using h1,h2,by rw [List.take_succ_cons,negs,if_pos hy,Nat.zero_add];exact h3⟩
  rw [if_neg hy] at h;cases c with
  | zero=>exact⟨0,y,rfl,by omega,rfl⟩
  | succ c =>obtain⟨j,x,h1,h2,h3⟩:=negs_find r c (by omega);exact⟨j+1,x,by simpa using h1,h2,by rw [List.take_succ_cons,negs,if_neg hy,h3];omega⟩
theorem firm_group{R:List (Nat × Nat)}{n:Nat}(h:FirmP R n i):groupM R i=i:=by refine Classical.byContradiction fun q => ?_;exact h.2 (groupM R i) (group_lt h.1) q (groupM_is R i).alike
theorem order_idx(R:List (Nat × Nat))(n:Nat):(orderM R n).Pairwise fun a b=>(orderM R n).idxOf a<(orderM R n).idxOf b:=by
 rw [List.pairwise_iff_getElem];intro i j hi hj hij;have e:∀ k (hk:k<(orderM R n).length),(orderM R n).idxOf (orderM R n)[k]=k:=fun k hk=>by have h2:=List.idxOf_lt_length_of_mem (List.getElem_mem hk);exact(List.getElem_inj (h₀:=h2) (h₁:=hk) (order_nodup R n)).1 (List.getElem_idxOf h2)
 rw [e,e];exact hij
theorem firm_rise(l:List VertM)(R:List (Nat × Nat)){p q a b:Nat}(hp:(firmX l R)[p]? = some a)(hq:(firmX l R)[q]? = some b)(h:p<q):posM R l.length a<posM R l.length b:=by
 have hs:(firmX l R).Pairwise fun a b=>(orderM R l.length).idxOf a<(orderM R l.length).idxOf b:=by unfold firmX aliveX;exact((order_idx R l.length).filter _).filter _
 have hf:∀ x∈firmX l R,groupM R x=x:=fun x hx=>by unfold firmX at hx;exact firm_group (firmB_iff.1 (List.mem_filter.1 hx).2)
 unfold posM;rw [hf a (List.mem_of_getElem? hp),hf b (List.mem_of_getElem? hq)];obtain⟨h1,e1⟩:=List.getElem?_eq_some_iff.1 hp;obtain⟨h2,e2⟩:=List.getElem?_eq_some_iff.1 hq;have:=(List.pairwise_iff_getElem.1 hs) p q h1 h2 h
 rwa [e1,e2] at this
structure KeptO (l:List VertM) (R:List (Nat × Nat)) (want:List ByteArray) (kept:List Int):Prop where
 len:kept.length=want.length
 some':∀(j:Nat) (x:Int),kept[j]? = some x→x<0∨∃(q i:Nat),(q,j)∈pairs ((firmX l R).map (textAt l)) want∧(firmX l R)[q]? = some i∧x=(i:Int)
theorem kept_ok(l:List VertM)(R:List (Nat × Nat))(want:List ByteArray):KeptO l R want (keptTo (firmX l R) (pairs ((firmX l R).map (textAt l)) want) want.length):=by
 have hup:=pairs_up ((firmX l R).map (textAt l)) want;have hK:=kept_at (firmX l R) _ (List.replicate want.length (-1)) hup fun p hp=>by rw [List.length_replicate];exact(ePairs_in hp).2.1
 have hlen:=kept_length (firmX l R) (pairs ((firmX l R).map (textAt l)) want) want.length;refine⟨hlen,fun j x hx => ?_⟩;rcases Classical.em (∃ p∈pairs ((firmX l R).map (textAt l)) want,p.2=j) with⟨p,hp,rfl⟩|hno
 · have h1:=hK.1 p hp;rw [← keptTo_fold,hx] at h1;have h2:=(ePairs_in hp).1;rw [List.length_map] at h2;exact .inr ⟨p.1,_,hp,by rw [List.getD_eq_getElem?_getD,List.getElem?_eq_getElem h2];rfl,Option.some.inj h1⟩
 have h1:=hK.2 j fun p hp e=>hno ⟨p,hp,e⟩;rw [← keptTo_fold,hx,List.getElem?_replicate] at h1;split at h1
 · exact .inl (by rw [Option.some.inj h1];decide)
 cases h1
section
variable {l : List VertM} {R : List (Nat × Nat)} {want : List ByteArray} {kept : List Int}
theorem KeptO.old(h:KeptO l R want kept){a:Nat}(hj:(plc l.length kept 0)[j]? = some a)(ha:a<l.length):∃ q,(q,j)∈pairs ((firmX l R).map (textAt l)) want∧(firmX l R)[q]? = some a∧kept[j]? = some (a:Int):=by
 have hjl:=(List.getElem?_eq_some_iff.1 hj).1;rw [plc_len] at hjl;have hx:kept[j]? = some kept[j]:=List.getElem?_eq_getElem hjl;have h1:=plc_get l.length kept 0 j _ hx;rw [hj] at h1;have h1:=Option.some.inj h1;rcases h.some' j _ hx with h2|⟨q,i,h2,h3,h4⟩
 · rw [if_neg (by omega)] at h1;omega
 rw [h4,if_pos (by omega),Int.toNat_natCast] at h1;subst h1;exact⟨q,h2,h3,by rw [hx,h4]⟩
theorem pair_rise{a b:List ByteArray}{p q:Nat}(h1:(p,i)∈pairs a b)(h2:(q,j)∈pairs a b)(hij:i<j):p<q:=by
 have hup:=pairs_up a b;obtain⟨m1,e1⟩:=List.getElem?_of_mem h1;obtain⟨m2,e2⟩:=List.getElem?_of_mem h2;obtain⟨l1,g1⟩:=List.getElem?_eq_some_iff.1 e1;obtain⟨l2,g2⟩:=List.getElem?_eq_some_iff.1 e2;have hpw:=List.pairwise_iff_getElem.1 hup;rcases Nat.lt_trichotomy m1 m2 with k|k|k
 · have:=hpw m1 m2 l1 l2 k;rw [g1,g2] at this;exact this.1
 · subst k;rw [e1] at e2;cases e2;omega
 have:=hpw m2 m1 l2 l1 k;rw [g1,g2] at this;have:=this.2;simp only at this;omega
theorem KeptO.chn(h:KeptO l R want kept){R':List (Nat × Nat)}(hold:∀ s∈R,s.1<l.length∧s.2<l.length)
  (hsub:∀ s∈R',s∈R∨∃ j,(plc l.length kept 0)[j]? = some s.1∧(plc l.length kept 0)[j+1]? = some s.2) (hsup:∀ s∈R,s∈R')
  (hties:∀(j a b:Nat),(plc l.length kept 0)[j]? = some a→(plc l.length kept 0)[j+1]? = some b→(a,b)∈R'∨Lead R a b):Chn R l.length (plc l.length kept 0) R':=by
 have hin:∀ {j a:Nat},(plc l.length kept 0)[j]? = some a→¬ a<l.length→∃ x,kept[j]? = some x∧x<0∧a=l.length+negs (kept.take j):=by
  intro j a hj ha;have hjl:=(List.getElem?_eq_some_iff.1 hj).1;rw [plc_len] at hjl;have hx:kept[j]? = some kept[j]:=List.getElem?_eq_getElem hjl;have h1:=plc_get l.length kept 0 j _ hx;rw [hj] at h1;have h1:=Option.some.inj h1;rcases h.some' j _ hx with h2|⟨q,i,_,h3,h4⟩
  · rw [if_neg (by omega),Nat.add_zero] at h1;exact⟨_,hx,h2,h1⟩
  rw [h4,if_pos (by omega),Int.toNat_natCast] at h1;have:=firmX_lt (List.mem_of_getElem? h3);omega
 refine⟨hold,hsub,hsup,hties,fun i j a b hi hj ha hb hij => ?_,fun a ha han y hy hne => ?_,?_⟩
 · obtain⟨p,h1,h2,_⟩:=h.old hi ha;obtain⟨q,h3,h4,_⟩:=h.old hj hb;exact firm_rise l R h2 h4 (pair_rise h1 h3 hij)
 · obtain⟨j,hj⟩:=List.getElem?_of_mem ha;obtain⟨p,_,h2,_⟩:=h.old hj han;have hm:=List.mem_of_getElem? h2;unfold firmX at hm;exact(firmB_iff.1 (List.mem_filter.1 hm).2).2 y hy hne
 unfold List.Nodup;rw [List.pairwise_iff_getElem];intro i j hi hj hij e;have g1:=List.getElem?_eq_getElem hi;have g2:=List.getElem?_eq_getElem hj;rw [← e] at g2
 by_cases ha:(plc l.length kept 0)[i]<l.length
 · obtain⟨p,h1,h2,_⟩:=h.old g1 ha;obtain⟨q,h3,h4,_⟩:=h.old g2 ha;have h5:=firm_rise l R h2 h4 (pair_rise h1 h3 hij);omega
 obtain⟨x,h1,h2,h3⟩:=hin g1 ha;obtain⟨y,h4,h5,h6⟩:=hin g2 ha;have:=negs_lt h1 h2 hij;omega
end
end Go.Proofs.YtjccmcgglfncdaaGreatDoor
namespace Go.Proofs.YtjccmcgglfncdaaGreatDoor
open Go Go.RowKit
def negT:List (Int × ByteArray)→List ByteArray
 | []=>[]
 | x :: r=>if 0≤x.1 then negT r else x.2 :: negT r
def vidsE(l:List VertM)(id:PidM):List (Int × ByteArray)→Nat→List VidM
 | [],_=>[]
 | x :: r,c=>if 0≤x.1 then(l.getD x.1.toNat noVert).id :: vidsE l id r c else⟨id,UInt8.ofNat c⟩ :: vidsE l id r (c+1)
def lnO(file:VidM)(t:ByteArray):OpM:=⟨3,file,noVid,t⟩
theorem negT_len:∀(ks:List Int) (ws:List ByteArray),ks.length=ws.length→(negT (ks.zip ws)).length=negs ks
 | [],_,_=>by simp [negT,negs]
 | x :: r,[],h=>by simp at h
 | x :: r,w :: ws,h=>by
  have ih:=negT_len r ws (by simpa using h);rw [List.zip_cons_cons,negT,negs]
  by_cases hx:0≤x
  · rw [if_pos hx,if_pos hx,Nat.zero_add];exact ih
  rw [if_neg hx,if_neg hx,List.length_cons,ih,Nat.add_comm]
theorem negT_get:∀(ks:List Int) (ws:List ByteArray) (j:Nat) (x:Int) (t:ByteArray),ks.length=ws.length→ks[j]? = some x→ws[j]? = some t→x<0→(negT (ks.zip ws))[negs (ks.take j)]? = some t
 | [],_,j,x,t,_,h,_,_=>by simp at h
 | y :: r,[],j,x,t,h,_,_,_=>by simp at h
 | y :: r,w :: ws,0,x,t,h,hx,ht,hn=>by
  obtain rfl:y=x:=by simpa using hx
  obtain rfl:w=t:=by simpa using ht
  rw [List.zip_cons_cons,negT,if_neg (by omega)];rfl
 | y :: r,w :: ws,j+1,x,t,h,hx,ht,hn=>by
  have ih:=negT_get r ws j x t (by simpa using h) (by simpa using hx) (by simpa using ht) hn;rw [List.zip_cons_cons,negT,List.take_succ_cons,negs]
  by_cases hy:0≤y
  · rw [if_pos hy,if_pos hy,Nat.zero_add];exact ih
  rw [if_neg hy,if_neg hy,Nat.add_comm,List.getElem?_cons_succ];exact ih
theorem negT_in:∀(xs:List (Int × ByteArray)) (t:ByteArray),t∈negT xs→∃ x∈xs,x.2=t
 | [],t,h=>by simp [negT] at h
 | x :: r,t,h=>by
  rw [negT] at h;split at h
  · obtain⟨y,h1,h2⟩:=negT_in r t h;exact⟨y,List.mem_cons_of_mem _ h1,h2⟩
  rcases List.mem_cons.1 h with rfl|h
  · exact⟨x,List.mem_cons_self ..,rfl⟩
  obtain⟨y,h1,h2⟩:=negT_in r t h;exact⟨y,List.mem_cons_of_mem _ h1,h2⟩
theorem vidsE_len(l:List VertM)(id:PidM):∀(xs:List (Int × ByteArray)) (c:Nat),(vidsE l id xs c).length=xs.length
 | [],_=>rfl
 | x :: r,c=>by
  rw [vidsE];split
  · rw [List.length_cons,vidsE_len l id r c,List.length_cons]
  rw [List.length_cons,vidsE_len l id r (c+1),List.length_cons]
theorem vidsE_get(l:List VertM)(id:PidM):∀(ks:List Int) (ws:List ByteArray) (c j:Nat) (x:Int),ks.length=ws.length→ks[j]? = some x→(vidsE l id (ks.zip ws) c)[j]? = some (if 0≤x then(l.getD x.toNat noVert).id else⟨id,UInt8.ofNat (c+negs (ks.take j))⟩)
 | [],_,_,j,x,_,h=>by simp at h
 | y :: r,[],_,j,x,h,_=>by simp at h
 | y :: r,w :: ws,c,0,x,h,hx=>by
  obtain rfl:y=x:=by simpa using hx
  rw [List.zip_cons_cons,vidsE];split
  · rfl
  simp [negs]
 | y :: r,w :: ws,c,j+1,x,h,hx=>by
  have hx:r[j]? = some x:=by simpa using hx
  have hl:r.length=ws.length:=by simpa using h
  rw [List.zip_cons_cons,vidsE,List.take_succ_cons,negs]
  by_cases hy:0≤y
  · rw [if_pos hy,if_pos hy,List.getElem?_cons_succ,vidsE_get l id r ws c j x hl hx,Nat.zero_add]
  rw [if_neg hy,if_neg hy,List.getElem?_cons_succ,vidsE_get l id r ws (c+1) j x hl hx];congr 2;rw [show c+1+negs (r.take j)=c+(1+negs (r.take j)) by omega]
noncomputable def egKept(l:List VertM)(R:List (Nat × Nat))(want:List ByteArray):List Int:=keptTo (firmX l R) (pairs ((firmX l R).map (textAt l)) want) want.length
noncomputable def egKill(l:List VertM)(R:List (Nat × Nat))(want:List ByteArray):List OpM:=killsE l (aliveX l R) (egKept l R want)
noncomputable def egNew(l:List VertM)(R:List (Nat × Nat))(want:List ByteArray):List ByteArray:=negT ((egKept l R want).zip want)
theorem egKept_ok(l:List VertM)(R:List (Nat × Nat))(want:List ByteArray):KeptO l R want (egKept l R want):=kept_ok l R want
section
variable {l : List VertM} {R : List (Nat × Nat)} {want : List ByteArray} {id : PidM} {file : VidM}
theorem egNew_len:(egNew l R want).length=negs (egKept l R want):=negT_len _ _ (egKept_ok l R want).len
theorem mem_egKill{o:OpM}:o∈egKill l R want↔∃ i,i∈aliveX l R∧(egKept l R want).contains (Int.ofNat i)=false∧o=⟨5,(l.getD i noVert).id,noVid,⟨#[]⟩⟩:=by
 unfold egKill killsE;rw [List.mem_map];constructor
 · rintro⟨i,hi,rfl⟩;obtain⟨h1,h2⟩:=List.mem_filter.1 hi;exact⟨i,h1,by simpa using h2,rfl⟩
 rintro⟨i,h1,h2,rfl⟩;exact⟨i,List.mem_filter.2 ⟨h1,by show(!(egKept l R want).contains (Int.ofNat i))=true;rw [h2];rfl⟩,rfl⟩
end
end Go.Proofs.YtjccmcgglfncdaaGreatDoor
namespace Go.Proofs.YtjccmcgglfncdaaGreatDoor
open Go Go.RowKit
section
variable {L : List PatchM} {f : VidM} {want : List ByteArray} {id : PidM}
end
end Go.Proofs.YtjccmcgglfncdaaGreatDoor
namespace Go.Proofs.YtjccmcgglfncdaaGreatDoor
open Go Go.RowKit
theorem nodup_at'{α:Type}{l:List α}(h:l.Nodup){i j:Nat}{a:α}(hi:l[i]? = some a)(hj:l[j]? = some a):i=j:=
 (List.getElem?_inj (List.getElem?_eq_some_iff.1 hi).1 h).1 (hi.trans hj.symm)
section
variable {L : List PatchM} {f : VidM} {want : List ByteArray} {id : PidM}
end
end Go.Proofs.YtjccmcgglfncdaaGreatDoor
namespace Go.Proofs.YtjccmcgglfncdaaGreatDoor
open Go Go.RowKit
section
variable {L : List PatchM} {f : VidM} {want : List ByteArray} {id : PidM}
end
end Go.Proofs.YtjccmcgglfncdaaGreatDoor
namespace Go.Proofs.YtjccmcgglfncdaaGreatDoor
open Go Go.RowKit
section
variable {L : List PatchM} {f : VidM} {want : List ByteArray} {id : PidM}
theorem UInt8.ofNat_self(n:UInt8):UInt8.ofNat n.toNat=n:=by simp
end
end Go.Proofs.YtjccmcgglfncdaaGreatDoor
namespace Go.Proofs.YtjccmcgglfncdaaGreatDoor
open Go Go.RowKit
variable{R:List (Nat × Nat)}{l:List VertM}{i:Nat}
section
variable {L : List PatchM} {f : VidM} {want : List ByteArray} {id : PidM}
theorem mem_steps{G:List PatchM}{e:EdgeM}:e∈stepsM G f↔hasE G e=true∧fileAt G e.1=f:=by unfold stepsM;rw [List.mem_filter,mem_edgesM];simp
theorem kept_plc{j:Nat}{x:Int}(hx:(egKept l R want)[j]? = some x)(h0:0≤x):(plc l.length (egKept l R want) 0)[j]? = some x.toNat:=by rw [plc_get _ _ 0 j _ hx,if_pos h0]
theorem killed_iff:(egKept l R want).contains (Int.ofNat i)=true↔∃ j:Nat,(egKept l R want)[j]? = some (i:Int):=by rw [List.contains_iff_mem];exact⟨fun h=>List.getElem?_of_mem h,fun⟨j,hj⟩=>List.mem_of_getElem? hj⟩
theorem alive_at{x:VertM}(h:l[i]? = some x):aliveQL l i = !x.dead:=by unfold aliveQL deadLine;rw [h]
theorem firm_alive(h:i∈firmX l R):aliveQL l i=true:=by unfold firmX aliveX at h;exact(List.mem_filter.1 (List.mem_filter.1 h).1).2
end
end Go.Proofs.YtjccmcgglfncdaaGreatDoor
namespace Go.Proofs.YtjccmcgglfncdaaGreatDoor
open Go Go.RowKit
section
variable {L : List PatchM} {f : VidM} {want : List ByteArray} {id : PidM}
theorem pair_text{l:List VertM}{R:List (Nat × Nat)}{q j i:Nat}(hp:(q,j)∈pairs ((firmX l R).map (textAt l)) want)(hq:(firmX l R)[q]? = some i):want[j]? = some (textAt l i):=by have h1:=(ePairs_in hp).2.2;simp only at h1;rw [← h1,List.getElem?_map,hq];rfl
end
end Go.Proofs.YtjccmcgglfncdaaGreatDoor
namespace Go.Proofs.YtjccmcgglfncdaaGreatDoor
open Go Go.RowKit
variable{a b:Nat}
section
variable {R R2 : List (Nat × Nat)} {n : Nat} {π : Nat → Nat}
structure Anew (R R2:List (Nat × Nat)) (n:Nat) (π:Nat→Nat):Prop where
 lt:∀ s∈R,s.1<n∧s.2<n
 inj:∀ a b,a<n→b<n→π a=π b→a=b
 iff:∀ s,s∈R2↔∃ s'∈R,(π s'.1,π s'.2)=s
theorem Anew.lead(h:Anew R R2 n π)(hl:Lead R a b):Lead R2 (π a) (π b):=by
 induction hl with
 | step h1=>exact .step ((h.iff _).2 ⟨_,h1,rfl⟩)
 | more _ h2 ih=>exact .more ih ((h.iff _).2 ⟨_,h2,rfl⟩)
theorem Anew.back(h:Anew R R2 n π){u v:Nat}(hl:Lead R2 u v):∀ a,a<n→π a=u→∃ b,b<n∧π b=v∧Lead R a b:=by
 induction hl with
 | step h1 =>
  intro a ha e;obtain⟨s,hs,es⟩:=(h.iff _).1 h1;have e1:π s.1=π a:=by rw [e];exact congrArg Prod.fst es
  have h2:=h.lt _ hs;have h3:=h.inj _ _ h2.1 ha e1;exact⟨s.2,h2.2,congrArg Prod.snd es,.step (by rw [← h3];exact hs)⟩
 | more _ h2 ih =>
  intro a ha e;obtain⟨k,hk,ek,hak⟩:=ih a ha e;obtain⟨s,hs,es⟩:=(h.iff _).1 h2;have e1:π s.1=π k:=by rw [ek];exact congrArg Prod.fst es
  have h4:=h.lt _ hs;have h3:=h.inj _ _ h4.1 hk e1;exact⟨s.2,h4.2,congrArg Prod.snd es,.more hak (by rw [← h3];exact hs)⟩
theorem Anew.lead_iff(h:Anew R R2 n π)(ha:a<n)(hb:b<n):Lead R2 (π a) (π b)↔Lead R a b:=by refine⟨fun q => ?_,h.lead⟩;obtain⟨c,hc,e,hl⟩:=h.back q a ha rfl;rw [← h.inj _ _ hc hb e];exact hl
theorem Anew.before(h:Anew R R2 n π)(ha:a<n)(hb:b<n):BeforeP R2 (π a) (π b)↔BeforeP R a b:=by unfold BeforeP;rw [h.lead_iff ha hb,h.lead_iff hb ha]
theorem Anew.alike(h:Anew R R2 n π)(ha:a<n)(hb:b<n):AlikeP R2 (π a) (π b)↔AlikeP R a b:=by unfold AlikeP;rw [h.lead_iff ha hb,h.lead_iff hb ha];exact or_congr ⟨h.inj _ _ ha hb,fun e=>by rw [e]⟩ Iff.rfl
end
theorem chnL_self{l:List VertM}{R:List (Nat × Nat)}{at':List Nat}(hR:∀ s∈R,s.1<l.length∧s.2<l.length)(hb:∀(i j a b:Nat),at'[i]? = some a→at'[j]? = some b→i<j→BeforeP R a b)
  (hal:∀ a∈at',∀ y,y<l.length→y≠a→¬ AlikeP R a y) (hnd:at'.Nodup) (hlv:∀ i,(i<l.length∧aliveQL l i=true)↔i∈at'):ChnL l R l.length at' R:=by refine⟨⟨hR,fun s hs=>.inl hs,fun s hs=>hs,fun j a b ha hb'=>.inr (hb j (j+1) a b ha hb' (by omega)).1,fun i j a b hi hj ha hb' hij => ?_,fun a ha _ y hy hne=>hal a ha y hy hne,hnd⟩,hlv,fun i hi=>.inl hi⟩;have h1:=hb i j a b hi hj hij;exact order_bef (group_lt ha) (group_lt hb') ((h1.left (groupM_is R a).alike).right (groupM_is R b).alike)
theorem ChnL.anew{l l2:List VertM}{R R' R2:List (Nat × Nat)}{n:Nat}{at':List Nat}{π:Nat→Nat}(h:ChnL l R n at' R')(ha:Anew R' R2 l.length π)(hlt:∀ a,a<l.length→π a<l2.length)
  (hal:∀ a,a<l.length→aliveQL l2 (π a)=aliveQL l a) (hon:∀ y,y<l2.length→∃ a,a<l.length∧π a=y):ChnL l2 R2 l2.length (at'.map π) R2:=by
 have hin:∀ a,a∈at'→a<l.length:=fun a hm=>h.lt hm;refine chnL_self ?_ ?_ ?_ ?_ ?_
 · intro s hs;obtain⟨s',h1,rfl⟩:=(ha.iff s).1 hs;exact⟨hlt _ (ha.lt _ h1).1,hlt _ (ha.lt _ h1).2⟩
 · intro i j a b hi hj hij;rw [List.getElem?_map] at hi hj;obtain⟨a',ha',rfl⟩:=Option.map_eq_some_iff.1 hi;obtain⟨b',hb',rfl⟩:=Option.map_eq_some_iff.1 hj;exact(ha.before (hin _ (List.mem_of_getElem? ha')) (hin _ (List.mem_of_getElem? hb'))).2 (h.chn.before ha' hb' hij)
 · intro a hm y hy hne;obtain⟨a',ha',rfl⟩:=List.mem_map.1 hm;obtain⟨y',hy',rfl⟩:=hon y hy;rw [ha.alike (hin _ ha') hy'];obtain⟨k,hk⟩:=List.getElem?_of_mem ha';exact h.chn.alone hk (h.news y' hy') fun e=>hne (by rw [e])
 · unfold List.Nodup;rw [List.pairwise_map];refine h.chn.nodup.imp_of_mem ?_;intro a b hma hmb hab e;exact hab (ha.inj _ _ (hin a hma) (hin b hmb) e)
 intro y;constructor
 · rintro⟨h1,h2⟩;obtain⟨a,h3,rfl⟩:=hon y h1;rw [hal a h3] at h2;exact List.mem_map.2 ⟨a,(h.lives a).1 ⟨h3,h2⟩,rfl⟩
 intro hm;obtain⟨a,h1,rfl⟩:=List.mem_map.1 hm;obtain⟨h2,h3⟩:=(h.lives a).2 h1;exact⟨hlt a h2,by rw [hal a h2];exact h3⟩
theorem adds_at(l:List VertM)(file:VidM)(id:PidM)(c:Nat):∀(xs:List (Int × ByteArray)) (s:List OpM × List VidM),xs.foldl (stepA l file id c) s=(s.1++(negT xs).map (lnO file),s.2++vidsE l id xs (c+s.1.length))
 | [],s=>by simp [negT,vidsE]
 | x :: r,s=>by
  rw [List.foldl_cons,adds_at l file id c r];unfold stepA
  by_cases h:0≤x.1
  · rw [if_pos h,negT,if_pos h,vidsE,if_pos h];simp
  rw [if_neg h,negT,if_neg h,vidsE,if_neg h];simp [lnO,Nat.add_assoc]
noncomputable def pgVids(l:List VertM)(R:List (Nat × Nat))(id:PidM)(c:Nat)(want:List ByteArray):List VidM:=vidsE l id ((egKept l R want).zip want) (c+(egKill l R want).length)
noncomputable def pgTies(l:List VertM)(R:List (Nat × Nat))(id:PidM)(c:Nat)(want:List ByteArray):List OpM:=(List.range want.length).flatMap (edgesE R (egKept l R want) (pgVids l R id c want))
theorem pg_edit(l:List VertM)(R:List (Nat × Nat))(file:VidM)(id:PidM)(c:Nat)(want:List ByteArray):editM l R (aliveX l R) (firmX l R) file id c want (pairs ((firmX l R).map (textAt l)) want)=egKill l R want++(egNew l R want).map (lnO file)++pgTies l R id c want:=by
 have hlen:(egKept l R want).length=want.length:=kept_length _ _ _;have h:addsTo l file id c (egKept l R want) want (egKill l R want) want.length=(egKill l R want++(egNew l R want).map (lnO file),pgVids l R id c want):=by unfold addsTo;rw [List.take_of_length_le (by rw [List.length_zip];omega),adds_at];rfl
 show(addsTo l file id c (egKept l R want) want (egKill l R want) want.length).1++(List.range want.length).flatMap (edgesE R (egKept l R want) (addsTo l file id c (egKept l R want) want (egKill l R want) want.length).2)=_;rw [h];rfl
section
variable {l : List VertM} {R : List (Nat × Nat)} {want : List ByteArray} {id : PidM} {file : VidM} {c : Nat}
theorem pgVids_len:(pgVids l R id c want).length=want.length:=by unfold pgVids;rw [vidsE_len,List.length_zip,(egKept_ok l R want).len,Nat.min_self]
theorem pgVids_get{j:Nat}{x:Int}(h:(egKept l R want)[j]? = some x):(pgVids l R id c want)[j]? = some (if 0≤x then(l.getD x.toNat noVert).id else⟨id,UInt8.ofNat (c+(egKill l R want).length+negs ((egKept l R want).take j))⟩):=vidsE_get l id _ _ _ j x (egKept_ok l R want).len h
theorem mem_pgTies{o:OpM}:o∈pgTies l R id c want↔∃(j:Nat) (x y:Int) (u v:VidM),(egKept l R want)[j]? = some x∧(egKept l R want)[j+1]? = some y∧(pgVids l R id c want)[j]? = some u∧(pgVids l R id c want)[j+1]? = some v∧(x<0∨y<0∨¬ BeforeP R x.toNat y.toNat)∧o=⟨4,u,v,⟨#[]⟩⟩:=by
 have hkl:=(egKept_ok l R want).len;have hvl:=pgVids_len (l:=l) (R:=R) (want:=want) (id:=id) (c:=c);unfold pgTies;rw [List.mem_flatMap];constructor
 ·
  rintro⟨j,hj,ho⟩;have hj:=List.mem_range.1 hj;unfold edgesE at ho;split at ho
  · rename_i hc;obtain⟨k,rfl⟩:∃ k,j=k+1:=⟨j - 1,by omega⟩;have e1:(egKept l R want)[k]? = some ((egKept l R want).getD k 0):=(by rw [List.getD_eq_getElem?_getD,List.getElem?_eq_getElem (by omega)];rfl);have e2:(egKept l R want)[k+1]? = some ((egKept l R want).getD (k+1) 0):=(by rw [List.getD_eq_getElem?_getD,List.getElem?_eq_getElem (by omega)];rfl);have e3:(pgVids l R id c want)[k]? = some ((pgVids l R id c want).getD k noVid):=(by rw [List.getD_eq_getElem?_getD,List.getElem?_eq_getElem (by omega)];rfl);have e4:(pgVids l R id c want)[k+1]? = some ((pgVids l R id c want).getD (k+1) noVid):=(by rw [List.getD_eq_getElem?_getD,List.getElem?_eq_getElem (by omega)];rfl);exact⟨k,_,_,_,_,e1,e2,e3,e4,hc.2,List.mem_singleton.1 ho⟩
  exact absurd ho List.not_mem_nil
 rintro⟨j,x,y,u,v,h1,h2,h3,h4,h5,rfl⟩;have hj:=(List.getElem?_eq_some_iff.1 h2).1;refine⟨j+1,List.mem_range.2 (by omega),?_⟩;unfold edgesE;have e1:(egKept l R want).getD j 0=x:=by rw [List.getD_eq_getElem?_getD,h1];rfl
 have e2:(egKept l R want).getD (j+1) 0=y:=by rw [List.getD_eq_getElem?_getD,h2];rfl
 have e3:(pgVids l R id c want).getD j noVid=u:=by rw [List.getD_eq_getElem?_getD,h3];rfl
 have e4:(pgVids l R id c want).getD (j+1) noVid=v:=by rw [List.getD_eq_getElem?_getD,h4];rfl
 rw [Nat.add_sub_cancel,e1,e2,e3,e4,if_pos ⟨by omega,h5⟩];exact List.mem_singleton.2 rfl
end
end Go.Proofs.YtjccmcgglfncdaaGreatDoor
namespace Go.Proofs.YtjccmcgglfncdaaGreatDoor
open Go Go.RowKit
variable{i:Nat}{o:OpM}{x:VertM}{v:VidM}
def pgNewO:OpM:=⟨1,noVid,noVid,⟨#[]⟩⟩
def FileOkO(L:List PatchM)(id:PidM)(O:List OpM)(i:Nat)(v:VidM):Prop:=(v.pid≠id→∃ x,vertM L v=some x∧x.kind=1)∧(v.pid=id→v.n.toNat<i∧O[v.n.toNat]? = some pgNewO)
def LineOkO(L:List PatchM)(id:PidM)(O:List OpM)(f:VidM)(i:Nat)(v:VidM):Prop:=(v.pid≠id→∃ x,vertM L v=some x∧x.kind=3∧x.file=f)∧(v.pid=id→v.n.toNat<i∧∃ t,O[v.n.toNat]? = some (lnO f t))
inductive PgOp (L:List PatchM) (id:PidM) (O:List OpM) (i:Nat):OpM→Prop
 | kill {x:VertM}:vertM L x.id=some x→PgOp L id O i ⟨5,x.id,noVid,⟨#[]⟩⟩
 | file:PgOp L id O i pgNewO
 | name {v:VidM} {t:ByteArray}:FileOkO L id O i v→nameOk t=true→PgOp L id O i ⟨2,v,noVid,t⟩
 | line {v:VidM} {t:ByteArray}:FileOkO L id O i v→lineOk t=true→PgOp L id O i (lnO v t)
 | tie {u v f:VidM}:LineOkO L id O f i u→LineOkO L id O f i v→u≠v→PgOp L id O i ⟨4,u,v,⟨#[]⟩⟩
structure PgBase (L:List PatchM) (id:PidM) (O:List OpM):Prop where
 wf:WfG L
 good:goodPid id=true
 next:nextM L id.author=id
 few:O.length≤200
structure PgIn (L:List PatchM) (id:PidM) (O:List OpM):Prop extends PgBase L id O where
 op:∀(i:Nat) (o:OpM),O[i]? = some o→PgOp L id O i o
 one:∀(i k:Nat) (o:OpM),O[i]? = some o→O[k]? = some o→4≤o.kind.toNat→i=k
noncomputable def pgPat(id:PidM)(O:List OpM):PatchM:=⟨id,depsM id O,O⟩
section
variable {L : List PatchM} {id : PidM} {O : List OpM}
theorem PgBase.len(h:PgBase L id O):∀ p∈L,p.ops.length≤200:=wf_len h.wf
theorem PgBase.name(h:PgBase L id O):authorOk id.author=true∧vecM L id.author<60000∧id.seq.toNat=vecM L id.author+1:=next_parts h.good h.next
theorem PgBase.noId(h:PgBase L id O):hasM L id=false:=by
 cases hc:hasM L id with
 | false=>rfl
 | true =>have h1:=h.name;have h3:=(h.wf.has id).1 hc;omega
theorem vert_made{L:List PatchM}(hv:vertM L v=some x):∃ p∈L,p.id=v.pid∧v.n.toNat<p.ops.length:=by
 unfold vertM at hv;obtain⟨o,ho,_⟩:=Option.map_eq_some_iff.1 hv;unfold vertOp at ho;obtain⟨p,hp,hm⟩:=List.exists_of_findSome?_eq_some ho;unfold madeBy at hm;split at hm
 · rename_i e;obtain⟨hget,_⟩:=Option.filter_eq_some_iff.1 hm;exact⟨p,hp,e,(List.getElem?_eq_some_iff.1 hget).1⟩
 cases hm
theorem PgBase.vert(h:PgBase L id O)(hv:vertM L v=some x):goodVid v=true∧hasM L v.pid=true∧v.pid≠id:=by
 obtain⟨p,hp,e,hn⟩:=vert_made hv;have hg:=h.wf.good p hp;have hh:hasM L v.pid=true:=by rw [← e];exact hasM_of_mem hp
 refine⟨?_,hh,fun e2 => ?_⟩
 · unfold goodVid;rw [← e,goodP_id hg];have:=(goodP_len hg).2;simp;omega
 rw [e2,h.noId] at hh;cases hh
def PgRef(L:List PatchM)(id:PidM)(i:Nat)(v:VidM):Prop:=(v.pid≠id→∃ x,vertM L v=some x)∧(v.pid=id→v.n.toNat<i)
theorem FileOkO.ref(h:FileOkO L id O i v):PgRef L id i v:=⟨fun e=>(h.1 e).imp fun _ q=>q.1,fun e=>(h.2 e).1⟩
theorem LineOkO.ref{f:VidM}(h:LineOkO L id O f i v):PgRef L id i v:=⟨fun e=>(h.1 e).imp fun _ q=>q.1,fun e=>(h.2 e).1⟩
theorem PgBase.kill_ref(h:PgBase L id O)(hx:vertM L x.id=some x):PgRef L id i x.id:=⟨fun _=>⟨x,hx⟩,fun e=>absurd e (h.vert hx).2.2⟩
theorem PgBase.refs(h:PgBase L id O)(ho:PgOp L id O i o)(hv:v∈refsM o):PgRef L id i v:=by
 cases ho with
 | @kill x h1 =>have hv:v∈[x.id]:=hv;rw [List.mem_singleton.1 hv];exact h.kill_ref h1
 | file=>exact absurd hv List.not_mem_nil
 | @name u t h1 h2 =>have hv:v∈[u]:=hv;rw [List.mem_singleton.1 hv];exact h1.ref
 | @line u t h1 h2 =>have hv:v∈[u]:=hv;rw [List.mem_singleton.1 hv];exact h1.ref
 | @tie u w f h1 h2 h3 =>
  have hv:v∈[u,w]:=hv;rcases List.mem_cons.1 hv with rfl|hv
  · exact h1.ref
  · rw [List.mem_singleton.1 hv];exact h2.ref
theorem PgBase.refGood(h:PgBase L id O)(hi:i<O.length)(hv:PgRef L id i v):refOk id i v=true∧(decide (v.pid.author=id.author) && decide (id.seq.toNat<v.pid.seq.toNat))=false∧(v.pid≠id→hasM L v.pid=true):=by
 have hf:=h.few
 by_cases e:v.pid=id
 · have h1:=hv.2 e;refine⟨?_,by rw [e];simp,fun q=>absurd e q⟩;unfold refOk goodVid;rw [e,h.good];simp;omega
 obtain⟨x,hx⟩:=hv.1 e;have h1:=h.vert hx;refine⟨by unfold refOk;simp [h1.1,e],?_,fun _=>h1.2.1⟩;have h2:=(h.wf.has v.pid).1 h1.2.1;have h3:=h.name
 by_cases ea:v.pid.author=id.author
 · rw [ea] at h2;simp;omega
 simp [ea]
theorem PgIn.kinds(h:PgIn L id O)(ho:PgOp L id O i o):opTail id o=true∧kindsB (pgPat id O) o=true:=by
 have hfile:∀ v,FileOkO L id O i v→ownB (pgPat id O) v 1=true:=fun v hv=>by
  unfold ownB
  by_cases e:v.pid=id
  · rw [show(pgPat id O).ops[v.n.toNat]? = some pgNewO from(hv.2 e).2];show(decide (v.pid≠id) || ((1:UInt8) == 1))=true;simp
  show(decide (v.pid≠id) || _)=true;simp [e]
 have hline:∀ f v,LineOkO L id O f i v→ownB (pgPat id O) v 3=true:=fun f v hv=>by
  unfold ownB
  by_cases e:v.pid=id
  · obtain⟨t,ht⟩:=(hv.2 e).2;rw [show(pgPat id O).ops[v.n.toNat]? = some (lnO f t) from ht];show(decide (v.pid≠id) || ((3:UInt8) == 3))=true;simp
  show(decide (v.pid≠id) || _)=true;simp [e]
 cases ho with
 | @kill x h1 =>refine⟨?_,rfl⟩;unfold opTail;rw [if_neg (show ¬ (5:UInt8)=1 by decide),if_neg (show ¬ (5:UInt8)=2 by decide),if_neg (show ¬ (5:UInt8)=3 by decide),if_neg (show ¬ (5:UInt8)=4 by decide),if_pos rfl];simp [(h.vert h1).2.2];rfl
 | file=>exact⟨rfl,rfl⟩
 | @name v t h1 h2 =>
  refine⟨?_,?_⟩
  · unfold opTail;rw [if_neg (show ¬ (2:UInt8)=1 by decide),if_pos rfl,h2];rfl
  · unfold kindsB;rw [if_pos (.inl rfl)];exact hfile v h1
 | @line v t h1 h2 =>
  refine⟨?_,?_⟩
  · unfold opTail lnO;rw [if_neg (show ¬ (3:UInt8)=1 by decide),if_neg (show ¬ (3:UInt8)=2 by decide),if_pos rfl,h2];rfl
  · unfold kindsB lnO;rw [if_pos (.inr rfl)];exact hfile v h1
 | @tie u v f hu hv huv =>
  refine⟨?_,?_⟩
  · unfold opTail;rw [if_neg (show ¬ (4:UInt8)=1 by decide),if_neg (show ¬ (4:UInt8)=2 by decide),if_neg (show ¬ (4:UInt8)=3 by decide),if_pos rfl];simp [huv];rfl
  ·
   unfold kindsB;rw [if_neg (show ¬ ((4:UInt8)=2∨(4:UInt8)=3) by decide),if_pos rfl];simp only [Bool.and_eq_true];refine⟨hline f u hu,hline f v hv,?_⟩;show(decide (u.pid≠id) || (decide (v.pid≠id) || decide (atOf (pgPat id O) u=atOf (pgPat id O) v)))=true
   by_cases e1:u.pid=id
   ·
    by_cases e2:v.pid=id
    · obtain⟨t1,ht1⟩:=(hu.2 e1).2;obtain⟨t2,ht2⟩:=(hv.2 e2).2;have:atOf (pgPat id O) u=atOf (pgPat id O) v:=(by unfold atOf;rw [show(pgPat id O).ops[u.n.toNat]? = some (lnO f t1) from ht1,show(pgPat id O).ops[v.n.toNat]? = some (lnO f t2) from ht2];rfl);simp [this]
    · simp [e2]
   · simp [e1]
theorem PgIn.oneOk(h:PgIn L id O)(ho:O[i]? = some o):oneB (pgPat id O) i o=true:=by
 have hop:=h.op i o ho;have hi:=(List.getElem?_eq_some_iff.1 ho).1;obtain⟨k1,k2⟩:=h.kinds hop;unfold oneB;simp only [Bool.and_eq_true];refine⟨?_,?_,?_,k2⟩
 · unfold opGood;rw [Bool.and_eq_true];exact⟨List.all_eq_true.2 fun v hv=>(h.refGood hi (h.refs hop hv)).1,k1⟩
 · unfold laterB;rw [Bool.not_eq_true',List.any_eq_false];intro v hv;have:=(h.refGood hi (h.refs hop hv)).2.1;exact fun q=>by rw [show(decide (v.pid.author=(pgPat id O).id.author) && decide ((pgPat id O).id.seq.toNat<v.pid.seq.toNat))=false from this] at q;cases q
 by_cases h4:4≤o.kind.toNat
 ·
  have:¬ o∈(pgPat id O).ops.take i:=by
   intro hm;obtain⟨k,hk⟩:=List.getElem?_of_mem hm;rw [List.getElem?_take] at hk;split at hk
   · rename_i hki;have:=h.one i k o ho hk h4;omega
   cases hk
  simp [this]
 simp [h4]
theorem PgIn.goodP(h:PgIn L id O)(hne:O≠[]):goodP (pgPat id O)=true:=by unfold Go.Proofs.YtjccmcgglfncdaaGreatDoor.goodP;simp only [Bool.and_eq_true,decide_eq_true_eq];refine⟨h.good,List.length_pos_iff.2 hne,h.few,rfl,?_⟩;unfold allB;rw [List.all_eq_true];intro i hi;obtain⟨o,ho⟩:∃ o,O[i]? = some o:=⟨_,List.getElem?_eq_getElem (List.mem_range.1 hi)⟩;rw [show(pgPat id O).ops[i]? = some o from ho];exact h.oneOk ho
theorem PgIn.lookOld(h:PgIn L id O)(hv:vertM L v=some x):lookM L (pgPat id O) v=some x:=by unfold lookM;rw [if_neg (show ¬ v.pid=(pgPat id O).id from(h.vert hv).2.2)];exact hv
theorem look_own(e:v.pid=id)(ho:O[v.n.toNat]? = some o)(hm:makesB o.kind=true):lookM L (pgPat id O) v=some ⟨v,o.kind,fileOf v o,o.text,false⟩:=by unfold lookM;rw [if_pos (show v.pid=(pgPat id O).id from e)];unfold madeBy;rw [if_pos (show(pgPat id O).id=v.pid from e.symm),show(pgPat id O).ops[v.n.toNat]? = some o from ho];simp [Option.filter,hm]
theorem PgIn.lookFile(h:PgIn L id O)(hv:FileOkO L id O i v):∃ x,lookM L (pgPat id O) v=some x∧x.kind=1:=by
 by_cases e:v.pid=id
 · exact⟨_,look_own e (hv.2 e).2 rfl,rfl⟩
 obtain⟨x,hx,hk⟩:=hv.1 e;exact⟨x,h.lookOld hx,hk⟩
theorem PgIn.lookLine(h:PgIn L id O){f:VidM}(hv:LineOkO L id O f i v):∃ x,lookM L (pgPat id O) v=some x∧x.kind=3∧x.file=f:=by
 by_cases e:v.pid=id
 · obtain⟨t,ht⟩:=(hv.2 e).2;exact⟨_,look_own e ht rfl,rfl,rfl⟩
 obtain⟨x,hx,hk⟩:=hv.1 e;exact⟨x,h.lookOld hx,hk⟩
theorem PgIn.met(h:PgIn L id O)(ho:O[i]? = some o):refMet (L++[pgPat id O]) o=true:=by
 have hn:hasM L (pgPat id O).id=false:=h.noId;cases h.op i o ho with
 | @kill x h1 =>rw [← refs_same hn (by simp)];unfold refsB;rw [if_neg (show ¬ ((5:UInt8)=2∨(5:UInt8)=3) by decide),if_pos rfl,h.lookOld h1];rfl
 | file=>rfl
 | @name v t h1 h2 =>obtain⟨x,hx,hk⟩:=h.lookFile h1;rw [← refs_same hn (by simp)];unfold refsB;rw [if_pos (.inl rfl),hx];show(x.kind == 1)=true;rw [hk];rfl
 | @line v t h1 h2 =>obtain⟨x,hx,hk⟩:=h.lookFile h1;rw [← refs_same hn (by simp [lnO])];unfold refsB lnO;rw [if_pos (.inr rfl),hx];show(x.kind == 1)=true;rw [hk];rfl
 | @tie u v f hu hv huv =>obtain⟨x,hx,kx,fx⟩:=h.lookLine hu;obtain⟨y,hy,ky,fy⟩:=h.lookLine hv;rw [← refs_same hn (by simp)];unfold refsB;rw [if_neg (show ¬ ((4:UInt8)=2∨(4:UInt8)=3) by decide),if_neg (show ¬ (4:UInt8)=5 by decide),if_pos rfl];show(isK (lookM L (pgPat id O) u) 3 && (isK (lookM L (pgPat id O) v) 3 && decide ((lookM L (pgPat id O) u).map (·.file)=(lookM L (pgPat id O) v).map (·.file))))=true;rw [hx,hy];show((x.kind == 3) && ((y.kind == 3) && decide (some x.file=some y.file)))=true;rw [kx,ky,fx,fy];simp
theorem PgIn.deps(h:PgIn L id O){d:PidM}(hd:d∈(pgPat id O).deps):hasM L d=true:=by
 have hd:d∈depsM id O:=hd;unfold depsM at hd;rw [mem_setS packPid_hi] at hd;unfold depsOf at hd;rcases List.mem_append.1 hd with hd|hd
 ·
  split at hd
  · rename_i hs;have hd:=List.mem_singleton.1 hd;subst hd;obtain⟨h1,h2,h3⟩:=h.name;refine(h.wf.has _).2 ?_;have e:(id.seq - 1).toNat=vecM L id.author:=(by have h4:(id.seq - 1).toNat=id.seq.toNat - 1:=(by rw [UInt16.toNat_sub_of_le _ _ (by rw [UInt16.le_iff_toNat_le];show 1≤id.seq.toNat;omega)];rfl);omega);show authorOk id.author=true∧1≤(id.seq - 1).toNat∧(id.seq - 1).toNat≤vecM L id.author;rw [e];exact⟨h1,by omega,Nat.le_refl _⟩
  exact absurd hd List.not_mem_nil
 obtain⟨o,ho,hd⟩:=List.mem_flatMap.1 hd;obtain⟨v,hv,rfl⟩:=List.mem_map.1 hd;obtain⟨hv,hvn⟩:=List.mem_filter.1 hv;have hvn:v.pid≠id:=by simpa using hvn
 obtain⟨i,hi⟩:=List.getElem?_of_mem ho;exact(h.refGood (List.getElem?_eq_some_iff.1 hi).1 (h.refs (h.op i o hi) hv)).2.2 hvn
theorem PgIn.check(h:PgIn L id O)(hne:O≠[]):checkM L (pgPat id O)=0:=by
 have h1:=h.goodP hne;have h2:hasM L (pgPat id O).id=false:=h.noId;have h3:nextM L (pgPat id O).id.author=(pgPat id O).id:=h.next;have h4:((pgPat id O).deps.all fun d=>hasM L d)=true:=List.all_eq_true.2 fun d hd=>h.deps hd;have h5:((pgPat id O).ops.all fun o=>refMet (L++[pgPat id O]) o)=true:=List.all_eq_true.2 fun o ho=>by obtain⟨i,hi⟩:=List.getElem?_of_mem ho;exact h.met hi
 unfold checkM;rw [h1,h2,h4,h5,if_neg (by decide),if_neg (by decide),if_neg (fun q=>q h3),if_neg (by decide),if_neg (by decide)]
theorem PgIn.checkOk(h:PgIn L id O)(hne:O≠[]):CheckOk L (pgPat id O):=check_ok (h.check hne)
theorem PgIn.wf2(h:PgIn L id O)(hne:O≠[]):WfG (L++[pgPat id O]):=wf_snoc h.wf (h.checkOk hne)
def hitO(O:List OpM)(v:VidM):Bool:=O.any fun o=>decide (o.kind=5) && decide (o.at'=v)
def updO(O:List OpM)(x:VertM):VertM:={x with dead:=x.dead || hitO O x.id}
theorem PgIn.vertOld(h:PgIn L id O)(hv:v.pid≠id):vertM (L++[pgPat id O]) v=(vertM L v).map (updO O):=by have hn:hasM L (pgPat id O).id=false:=h.noId;unfold vertM;rw [look_op hn,if_neg (show ¬ v.pid=(pgPat id O).id from hv),deadM_snoc];cases vertOp L v <;> rfl
theorem PgIn.vertNew(h:PgIn L id O)(hne:O≠[])(hv:v.pid=id):vertM (L++[pgPat id O]) v=(madeBy (pgPat id O) v).map fun o=>⟨v,o.kind,fileOf v o,o.text,false⟩:=by
 have hn:hasM L (pgPat id O).id=false:=h.noId;have hd:deadM (L++[pgPat id O]) v=false:=by have:=own_alive h.wf (h.checkOk hne) (k:=(pgPat id O).ops.length) (v:=v) hv;rw [part_all] at this;exact this
 show(vertOp (L++[pgPat id O]) v).map _=_;rw [look_op hn,if_pos (show v.pid=(pgPat id O).id from hv)];show(madeBy (pgPat id O) v).map (fun o=>(⟨v,o.kind,fileOf v o,o.text,deadM (L++[pgPat id O]) v⟩:VertM))=_;rw [hd]
theorem PgIn.vertAt(h:PgIn L id O)(hne:O≠[])(e:v.pid=id)(ho:O[v.n.toNat]? = some o)(hm:makesB o.kind=true):vertM (L++[pgPat id O]) v=some ⟨v,o.kind,fileOf v o,o.text,false⟩:=by rw [h.vertNew hne e];unfold madeBy;rw [if_pos (show(pgPat id O).id=v.pid from e.symm),show(pgPat id O).ops[v.n.toNat]? = some o from ho];simp [Option.filter,hm]
theorem PgIn.vertCases(h:PgIn L id O)(hne:O≠[])(hx:vertM (L++[pgPat id O]) v=some x) :
  (v.pid≠id∧∃ y,vertM L v=some y∧updO O y=x)∨(v.pid=id∧∃ o,O[v.n.toNat]? = some o∧makesB o.kind=true∧x=⟨v,o.kind,fileOf v o,o.text,false⟩):=by
 by_cases e:v.pid=id
 · right;rw [h.vertNew hne e] at hx;obtain⟨o,ho,hx⟩:=Option.map_eq_some_iff.1 hx;unfold madeBy at ho;rw [if_pos (show(pgPat id O).id=v.pid from e.symm)] at ho;obtain⟨hget,hm⟩:=Option.filter_eq_some_iff.1 ho;exact⟨e,o,hget,hm,hx.symm⟩
 left;rw [h.vertOld e] at hx;obtain⟨y,hy,hx⟩:=Option.map_eq_some_iff.1 hx;exact⟨e,y,hy,hx⟩
theorem PgIn.hasE2(e:EdgeM):hasE (L++[pgPat id O]) e=true↔hasE L e=true∨∃ o∈O,o.kind=4∧o.at'=e.1∧o.to=e.2:=by rw [hasE_snoc,Bool.or_eq_true];refine or_congr Iff.rfl ?_;rw [List.any_eq_true];refine exists_congr fun o=>and_congr Iff.rfl ?_;simp only [Bool.and_eq_true,decide_eq_true_eq]
end
end Go.Proofs.YtjccmcgglfncdaaGreatDoor
namespace Go.Proofs.YtjccmcgglfncdaaGreatDoor
open Go Go.RowKit
variable{t:List FileM}{L:List PatchM}{k m:Nat}
def killOp(v:VidM):OpM:=⟨5,v,noVid,⟨#[]⟩⟩
noncomputable def killsN(L:List PatchM)(t:List FileM)(n:NameM):List OpM:=
 if findT t n.name<0 then [killOp n.file] else((namesM L n.file).filter fun v=>decide (v.text≠n.name)).map fun v=>killOp v.id
noncomputable def killsTo(L:List PatchM)(t:List FileM)(k:Nat):List OpM:=((allM L).take k).flatMap (killsN L t)
noncomputable def linesOps(l:List VertM)(R:List (Nat × Nat))(file:VidM)(id:PidM)(c:Nat)(want:List ByteArray):List OpM:=
 editM l R (aliveX l R) (firmX l R) file id c want (pairs ((firmX l R).map (textAt l)) want)
def noFile:FileM:=⟨⟨#[]⟩,[],[]⟩
noncomputable def plEdStep(L:List PatchM)(t:List FileM)(id:PidM)(out:List OpM)(n:NameM):List OpM:=
 if findT t n.name<0 then out else out++linesOps (linesM L n.file) (relM L n.file) n.file id out.length (t.getD (findT t n.name).toNat noFile).lines
noncomputable def edTo(L:List PatchM)(t:List FileM)(id:PidM)(k:Nat):List OpM:=((allM L).take k).foldl (plEdStep L t id) (killsTo L t (allM L).length)
def isThere(ns:List NameM)(f:FileM):Bool:=ns.any fun n=>decide (n.name=f.name)
noncomputable def fileOps(id:PidM)(c:Nat)(f:FileM):List OpM:=
 ⟨1,noVid,noVid,⟨#[]⟩⟩ :: ⟨2,⟨id,UInt8.ofNat c⟩,noVid,f.name⟩ :: linesOps [] [] ⟨id,UInt8.ofNat c⟩ id (c+2) f.lines
noncomputable def newStep(ns:List NameM)(id:PidM)(out:List OpM)(f:FileM):List OpM:=if isThere ns f then out else out++fileOps id out.length f
noncomputable def newTo(L:List PatchM)(t:List FileM)(id:PidM)(k:Nat):List OpM:=(t.take k).foldl (newStep (allM L) id) (edTo L t id (allM L).length)
noncomputable def planM(L:List PatchM)(t:List FileM)(id:PidM):List OpM:=newTo L t id t.length
theorem killsTo_succ{n:NameM}(h:(allM L)[k]? = some n):killsTo L t (k+1)=killsTo L t k++killsN L t n:=by unfold killsTo;rw [take_one h,List.flatMap_append];simp
theorem edTo_succ{id:PidM}{n:NameM}(h:(allM L)[k]? = some n):edTo L t id (k+1)=plEdStep L t id (edTo L t id k) n:=by unfold edTo;rw [take_one h,List.foldl_append];rfl
theorem newTo_succ{id:PidM}{f:FileM}(h:t[k]? = some f):newTo L t id (k+1)=newStep (allM L) id (newTo L t id k) f:=by unfold newTo;rw [take_one h,List.foldl_append];rfl
theorem edTo_zero(L:List PatchM)(t:List FileM)(id:PidM):edTo L t id 0=killsTo L t (allM L).length:=rfl
theorem newTo_zero(L:List PatchM)(t:List FileM)(id:PidM):newTo L t id 0=edTo L t id (allM L).length:=rfl
theorem killsTo_zero(L:List PatchM)(t:List FileM):killsTo L t 0=[]:=rfl
theorem linesOps_len(l:List VertM)(R:List (Nat × Nat))(file:VidM)(id:PidM)(c:Nat)(want:List ByteArray):(linesOps l R file id c want).length≤l.length+2*want.length:=by unfold linesOps;rw [edit_eq,List.length_append];have h1:=adds_len1 (l:=l) (file:=file) (id:=id) (from':=c) (kept:=keptTo (firmX l R) (pairs ((firmX l R).map (textAt l)) want) want.length) (want:=want) (ks:=killsE l (aliveX l R) (keptTo (firmX l R) (pairs ((firmX l R).map (textAt l)) want) want.length)) want.length;have h2:=kills_len l (keptTo (firmX l R) (pairs ((firmX l R).map (textAt l)) want) want.length) (aliveX l R);have h3:=ties_len R (keptTo (firmX l R) (pairs ((firmX l R).map (textAt l)) want) want.length) (addsTo l file id c (keptTo (firmX l R) (pairs ((firmX l R).map (textAt l)) want) want.length) want (killsE l (aliveX l R) (keptTo (firmX l R) (pairs ((firmX l R).map (textAt l)) want) want.length)) want.length).2 want.length;have h4:=aliveX_len l R;omega
theorem namesM_few{f:VidM}(h:(idsM L).length≤m):(namesM L f).length≤m:=by unfold namesM;rw [List.length_map];refine Nat.le_trans (setS_few _) ?_;rw [List.length_map];unfold aliveM ofM;refine Nat.le_trans (List.length_filter_le _ _) (Nat.le_trans (List.length_filter_le _ _) ?_);unfold vertsM;rw [List.length_map];exact h
theorem killsTo_len(L:List PatchM)(t:List FileM)(hm:∀ n∈allM L,(namesM L n.file).length≤m)(h1:1≤m):∀ k,(killsTo L t k).length≤k*m
 | 0=>by simp [killsTo]
 | k+1=>by
  have ih:=killsTo_len L t hm h1 k;rcases Nat.lt_or_ge k (allM L).length with hk|hk
  ·
   obtain⟨n,hn⟩:=gol hk;rw [killsTo_succ hn,List.length_append];have h2:(killsN L t n).length≤m:=by
    unfold killsN;split
    · simpa using h1
    rw [List.length_map];exact Nat.le_trans (List.length_filter_le _ _) (hm n (List.mem_of_getElem? hn))
   have:(k+1)*m=k*m+m:=(by rw [Nat.add_mul,Nat.one_mul]);omega
  have h2:killsTo L t (k+1)=killsTo L t k:=by unfold killsTo;rw [List.take_of_length_le (by omega),List.take_of_length_le hk]
  rw [h2];exact Nat.le_trans ih (Nat.mul_le_mul_right _ (by omega))
theorem edTo_len(L:List PatchM)(t:List FileM)(id:PidM){p:Nat}(hm:∀ n∈allM L,(linesM L n.file).length≤m)(ht:∀ f∈t,f.lines.length≤p):∀ k,(edTo L t id k).length≤(killsTo L t (allM L).length).length+k*(m+2*p)
 | 0=>by rw [edTo_zero];omega
 | k+1=>by
  have ih:=edTo_len L t id hm ht k;have h0:(k+1)*(m+2*p)=k*(m+2*p)+(m+2*p):=by rw [Nat.add_mul,Nat.one_mul]
  rcases Nat.lt_or_ge k (allM L).length with hk|hk
  ·
   obtain⟨n,hn⟩:=gol hk;rw [edTo_succ hn];unfold plEdStep;split
   · omega
   rw [List.length_append];have h1:=linesOps_len (linesM L n.file) (relM L n.file) n.file id (edTo L t id k).length (t.getD (findT t n.name).toNat noFile).lines;have h2:=hm n (List.mem_of_getElem? hn);have h3:(t.getD (findT t n.name).toNat noFile).lines.length≤p:=by
    rw [List.getD_eq_getElem?_getD];cases hg:t[(findT t n.name).toNat]? with
    | none=>simp [noFile]
    | some f=>simpa using ht f (List.mem_of_getElem? hg)
   omega
  have h2:edTo L t id (k+1)=edTo L t id k:=by unfold edTo;rw [List.take_of_length_le (by omega),List.take_of_length_le hk]
  rw [h2];omega
theorem newTo_len(L:List PatchM)(t:List FileM)(id:PidM){p:Nat}(ht:∀ f∈t,f.lines.length≤p):∀ k,(newTo L t id k).length≤(edTo L t id (allM L).length).length+k*(2+2*p)
 | 0=>by rw [newTo_zero];omega
 | k+1=>by
  have ih:=newTo_len L t id ht k;have h0:(k+1)*(2+2*p)=k*(2+2*p)+(2+2*p):=by rw [Nat.add_mul,Nat.one_mul]
  rcases Nat.lt_or_ge k t.length with hk|hk
  ·
   obtain⟨f,hf⟩:=gol hk;rw [newTo_succ hf];unfold newStep;split
   · omega
   rw [List.length_append];unfold fileOps;have h1:=linesOps_len [] [] ⟨id,UInt8.ofNat (newTo L t id k).length⟩ id ((newTo L t id k).length+2) f.lines;have h2:=ht f (List.mem_of_getElem? hf);simp only [List.length_cons,List.length_nil] at h1 ⊢;omega
  have h2:newTo L t id (k+1)=newTo L t id k:=by unfold newTo;rw [List.take_of_length_le (by omega),List.take_of_length_le hk]
  rw [h2];omega
end Go.Proofs.YtjccmcgglfncdaaGreatDoor
namespace Go.Proofs.YtjccmcgglfncdaaGreatDoor
open Go Go.RowKit
variable{L:List PatchM}{i j k:Nat}{x:VertM}{f v:VidM}
noncomputable def pgOps(l:List VertM)(R:List (Nat × Nat))(f:VidM)(id:PidM)(c:Nat)(want:List ByteArray):List OpM:=egKill l R want++(egNew l R want).map (lnO f)++pgTies l R id c want
theorem linesOps_eq(l:List VertM)(R:List (Nat × Nat))(f:VidM)(id:PidM)(c:Nat)(want:List ByteArray):linesOps l R f id c want=pgOps l R f id c want:=pg_edit l R f id c want
section
variable {l : List VertM} {R : List (Nat × Nat)} {want : List ByteArray} {id : PidM} {f : VidM} {c : Nat}
theorem pg_cases{o:OpM}(h:(pgOps l R f id c want)[i]? = some o) :
  (egKill l R want)[i]? = some o∨(∃ k t,i=(egKill l R want).length+k∧(egNew l R want)[k]? = some t∧o=lnO f t)∨(∃ k,i=(egKill l R want).length+(egNew l R want).length+k∧(pgTies l R id c want)[k]? = some o):=by
 unfold pgOps at h
 by_cases h1:i<(egKill l R want).length
 · rw [List.append_assoc,List.getElem?_append_left h1] at h;exact .inl h
 by_cases h2:i<(egKill l R want).length+(egNew l R want).length
 · rw [List.getElem?_append_left (by rw [List.length_append,List.length_map];omega),List.getElem?_append_right (by omega),List.getElem?_map] at h;obtain⟨t,ht,e⟩:=Option.map_eq_some_iff.1 h;exact .inr (.inl ⟨i - (egKill l R want).length,t,by omega,ht,e.symm⟩)
 rw [List.getElem?_append_right (by rw [List.length_append,List.length_map];omega),List.length_append,List.length_map] at h;exact .inr (.inr ⟨i - ((egKill l R want).length+(egNew l R want).length),by omega,h⟩)
theorem pg_new{t:ByteArray}(h:(egNew l R want)[k]? = some t):(pgOps l R f id c want)[(egKill l R want).length+k]? = some (lnO f t):=by have hc:=(List.getElem?_eq_some_iff.1 h).1;unfold pgOps;rw [List.getElem?_append_left (by rw [List.length_append,List.length_map];omega),List.getElem?_append_right (by omega),List.getElem?_map,Nat.add_sub_cancel_left,h];rfl
theorem edit_nil{id':PidM}{c':Nat}(h:editM l R (aliveX l R) (firmX l R) f id c want (pairs ((firmX l R).map (textAt l)) want)=[]):linesOps l R f id' c' want=[]:=by rw [pg_edit,List.append_eq_nil_iff,List.append_eq_nil_iff] at h;obtain⟨⟨h1,h2⟩,h3⟩:=h;rw [linesOps_eq];unfold pgOps;have hv:=pgVids_len (l:=l) (R:=R) (want:=want) (id:=id) (c:=c);have hk:=(egKept_ok l R want).len;rw [h1,List.map_eq_nil_iff.1 h2,List.nil_append,List.map_nil,List.nil_append];refine List.eq_nil_iff_forall_not_mem.2 fun o ho => ?_;obtain⟨j,x,y,u,v,g1,g2,g3,g4,g5,rfl⟩:=mem_pgTies.1 ho;have hj:=(List.getElem?_eq_some_iff.1 g2).1;have:(⟨4,(pgVids l R id c want)[j]'(by omega),(pgVids l R id c want)[j+1]'(by omega),⟨#[]⟩⟩:OpM)∈pgTies l R id c want:=mem_pgTies.2 ⟨j,x,y,_,_,g1,g2,List.getElem?_eq_getElem (by omega),List.getElem?_eq_getElem (by omega),g5,rfl⟩;rw [h3] at this;exact absurd this List.not_mem_nil
end
def EmbAt(O:List OpM)(c:Nat)(s:List OpM):Prop:=∀(j:Nat) (o:OpM),s[j]? = some o→O[c+j]? = some o
structure PgF (L:List PatchM) (id:PidM) (O:List OpM) (f:VidM) (c:Nat) (want:List ByteArray):Prop where
 emb:EmbAt O c (pgOps (linesM L f) (relM L f) f id c want)
 only3:∀(i:Nat) (t:ByteArray),O[i]? = some (lnO f t)→∃ k,i=c+k∧(pgOps (linesM L f) (relM L f) f id c want)[k]? = some (lnO f t)
 only5:∀ x∈linesM L f,hitO O x.id=true→∃ o∈egKill (linesM L f) (relM L f) want,o.at'=x.id
 only4:∀ o∈O,o.kind=4→fileAt (L++[pgPat id O]) o.at'=f→o∈pgTies (linesM L f) (relM L f) id c want
noncomputable def pgNewV(L:List PatchM)(f:VidM)(id:PidM)(c:Nat)(want:List ByteArray)(k:Nat):VertM:=⟨⟨id,UInt8.ofNat (c+(egKill (linesM L f) (relM L f) want).length+k)⟩,3,f,(egNew (linesM L f) (relM L f) want).getD k ⟨#[]⟩,false⟩
noncomputable def pgLines(L:List PatchM)(id:PidM)(O:List OpM)(f:VidM)(c:Nat)(want:List ByteArray):List VertM:=(linesM L f).map (updO O)++(List.range (egNew (linesM L f) (relM L f) want).length).map (pgNewV L f id c want)
noncomputable def pgRel(L:List PatchM)(id:PidM)(O:List OpM)(f:VidM)(c:Nat)(want:List ByteArray):List (Nat × Nat):=(stepsM (L++[pgPat id O]) f).map fun e=>(placeM (pgLines L id O f c want) e.1,placeM (pgLines L id O f c want) e.2)
section
variable {L : List PatchM} {id : PidM} {O : List OpM} {f : VidM} {c : Nat} {want : List ByteArray}
theorem line_is(hl:∀ p∈L,p.ops.length≤200):x∈linesM L f↔vertM L x.id=some x∧x.kind=3∧x.file=f:=by unfold linesM ofM;rw [List.mem_filter,mem_vertsM hl x];simp
theorem rises_lines(hl:∀ p∈L,p.ops.length≤200)(f:VidM):Rises vertKey (linesM L f):=by unfold linesM ofM;exact(rises_vertsM hl).filter _
theorem lines_ids(hl:∀ p∈L,p.ops.length≤200)(f:VidM):((linesM L f).map (·.id)).Nodup:=by have hr:=rises_lines hl f;unfold List.Nodup;rw [List.pairwise_map];unfold Rises at hr;refine hr.imp ?_;intro a b hab e;unfold vertKey at hab;rw [e] at hab;omega
theorem lines_inj(hl:∀ p∈L,p.ops.length≤200){y:VertM}(hi:(linesM L f)[i]? = some x)(hj:(linesM L f)[j]? = some y)(e:x.id=y.id):i=j:=by have h1:=place_at (lines_ids hl f) hi;have h2:=place_at (lines_ids hl f) hj;rw [e] at h1;omega
theorem PgBase.ownN(hp:PgBase L id O)(h:EmbAt O c (pgOps (linesM L f) (relM L f) f id c want))(hk:k<(egNew (linesM L f) (relM L f) want).length):(UInt8.ofNat (c+(egKill (linesM L f) (relM L f) want).length+k)).toNat=c+(egKill (linesM L f) (relM L f) want).length+k∧O[c+(egKill (linesM L f) (relM L f) want).length+k]? = some (lnO f ((egNew (linesM L f) (relM L f) want).getD k ⟨#[]⟩)):=by
 have ht:(egNew (linesM L f) (relM L f) want)[k]? = some ((egNew (linesM L f) (relM L f) want).getD k ⟨#[]⟩):=by rw [List.getD_eq_getElem?_getD,List.getElem?_eq_getElem hk];rfl
 have h1:=h _ _ (pg_new (f:=f) (id:=id) (c:=c) ht);rw [← Nat.add_assoc] at h1;have h2:=(List.getElem?_eq_some_iff.1 h1).1;have h3:=hp.few;refine⟨?_,h1⟩;simp;omega
theorem pg_vid(hv:(pgVids (linesM L f) (relM L f) id c want)[j]? = some v) :
  (∃(x:VertM) (i:Nat),(linesM L f)[i]? = some x∧v=x.id∧(egKept (linesM L f) (relM L f) want)[j]? = some (i:Int)) ∨
  (∃(k:Nat) (t:ByteArray) (z:Int),(egNew (linesM L f) (relM L f) want)[k]? = some t∧want[j]? = some t∧v=⟨id,UInt8.ofNat (c+(egKill (linesM L f) (relM L f) want).length+k)⟩∧(egKept (linesM L f) (relM L f) want)[j]? = some z∧z<0∧k=negs ((egKept (linesM L f) (relM L f) want).take j)):=by
 have hk:=egKept_ok (linesM L f) (relM L f) want;have hjl:=(List.getElem?_eq_some_iff.1 hv).1;rw [pgVids_len] at hjl;have hkj:j<(egKept (linesM L f) (relM L f) want).length:=by rw [hk.len];exact hjl
 have hx:(egKept (linesM L f) (relM L f) want)[j]? = some (egKept (linesM L f) (relM L f) want)[j]:=List.getElem?_eq_getElem hkj;have h1:=pgVids_get (id:=id) (c:=c) hx;rw [hv] at h1;have h1:=Option.some.inj h1;rcases hk.some' j _ hx with h2|⟨q,i,_,h3,h4⟩
 · rw [if_neg (by omega)] at h1;have ht:want[j]? = some want[j]:=List.getElem?_eq_getElem hjl;exact .inr ⟨_,_,_,negT_get _ _ j _ _ hk.len hx ht h2,ht,h1,hx,h2,rfl⟩
 have hil:=firmX_lt (List.mem_of_getElem? h3);have hxi:(linesM L f)[i]? = some (linesM L f)[i]:=List.getElem?_eq_getElem hil;rw [h4,if_pos (by omega),Int.toNat_natCast,getD_of hxi] at h1;exact .inl ⟨_,i,hxi,h1,by rw [hx,h4]⟩
theorem PgBase.line(hp:PgBase L id O)(hx:(linesM L f)[i]? = some x):vertM L x.id=some x∧x.kind=3∧x.file=f∧x.id.pid≠id:=by obtain⟨h1,h2,h3⟩:=(line_is hp.len).1 (List.mem_of_getElem? hx);exact⟨h1,h2,h3,(hp.vert h1).2.2⟩
theorem PgBase.vidsOne(hp:PgBase L id O)(h:EmbAt O c (pgOps (linesM L f) (relM L f) f id c want))(hj:(pgVids (linesM L f) (relM L f) id c want)[j]? = some v)(hk:(pgVids (linesM L f) (relM L f) id c want)[k]? = some v)(hjk:j<k):False:=by
 have hK:=egKept_ok (linesM L f) (relM L f) want;rcases pg_vid hj with⟨x,i,h1,h2,h3⟩|⟨c1,t,z,h1,h1w,h2,h3,h4,h5⟩
 ·
  rcases pg_vid hk with⟨y,i2,g1,g2,g3⟩|⟨c2,t2,z2,g1,g1w,g2,g3,g4,g5⟩
  ·
   have e:i=i2:=lines_inj hp.len h1 g1 (by rw [← h2,g2]);subst e;rcases hK.some' j _ h3 with q|⟨p1,a1,q1,q2,q3⟩
   · omega
   rcases hK.some' k _ g3 with q|⟨p2,a2,r1,r2,r3⟩
   · omega
   have e1:i=a1:=(by omega);have e2:i=a2:=(by omega);subst e1;subst e2;have:=firm_rise _ _ q2 r2 (pair_rise q1 r1 hjk);omega
  have:=(hp.line h1).2.2.2;rw [← h2,g2] at this;exact this rfl
 rcases pg_vid hk with⟨y,i2,g1,g2,g3⟩|⟨c2,t2,z2,g1,g1w,g2,g3,g4,g5⟩
 · have:=(hp.line g1).2.2.2;rw [← g2,h2] at this;exact this rfl
 have hc:=(List.getElem?_eq_some_iff.1 h1).1;have hc2:=(List.getElem?_eq_some_iff.1 g1).1;have e:UInt8.ofNat (c+(egKill (linesM L f) (relM L f) want).length+c1)=UInt8.ofNat (c+(egKill (linesM L f) (relM L f) want).length+c2):=by rw [h2] at g2;exact congrArg VidM.n g2
 have e2:=congrArg UInt8.toNat e;rw [(hp.ownN h hc).1,(hp.ownN h hc2).1] at e2;have:=negs_lt h3 h4 hjk;omega
theorem pgLines_len:(pgLines L id O f c want).length=(linesM L f).length+(egNew (linesM L f) (relM L f) want).length:=by unfold pgLines;rw [List.length_append,List.length_map,List.length_map,List.length_range]
theorem pgLines_old(h:(linesM L f)[i]? = some x):(pgLines L id O f c want)[i]? = some (updO O x):=by have hi:=(List.getElem?_eq_some_iff.1 h).1;unfold pgLines;rw [List.getElem?_append_left (by rw [List.length_map];exact hi),List.getElem?_map,h];rfl
theorem pgLines_new(h:k<(egNew (linesM L f) (relM L f) want).length):(pgLines L id O f c want)[(linesM L f).length+k]? = some (pgNewV L f id c want k):=by unfold pgLines;rw [List.getElem?_append_right (by rw [List.length_map];omega),List.length_map,Nat.add_sub_cancel_left,List.getElem?_map,List.getElem?_range h];rfl
theorem PgF.vertC(h:PgF L id O f c want)(hp:PgIn L id O)(hne:O≠[])(hk:k<(egNew (linesM L f) (relM L f) want).length):vertM (L++[pgPat id O]) (pgNewV L f id c want k).id=some (pgNewV L f id c want k):=by obtain⟨h1,h2⟩:=hp.ownN h.emb hk;have h3:=hp.vertAt hne (v:=(pgNewV L f id c want k).id) (o:=lnO f ((egNew (linesM L f) (relM L f) want).getD k ⟨#[]⟩)) rfl (by show O[(UInt8.ofNat (c+(egKill (linesM L f) (relM L f) want).length+k)).toNat]? = _;rw [h1];exact h2) rfl;exact h3
theorem PgF.lines2(h:PgF L id O f c want)(hp:PgIn L id O)(hne:O≠[])(x:VertM):x∈linesM (L++[pgPat id O]) f↔x∈pgLines L id O f c want:=by
 rw [line_is (wf_len (hp.wf2 hne))];constructor;rotate_left
 ·
  intro hx;unfold pgLines at hx;rcases List.mem_append.1 hx with hx|hx
  · obtain⟨y,hy,rfl⟩:=List.mem_map.1 hx;obtain⟨h1,h2,h3⟩:=(line_is hp.len).1 hy;refine⟨?_,h2,h3⟩;rw [hp.vertOld (show(updO O y).id.pid≠id from(hp.vert h1).2.2)];show(vertM L y.id).map (updO O)=_;rw [h1];rfl
  obtain⟨k,hk,rfl⟩:=List.mem_map.1 hx;exact⟨h.vertC hp hne (List.mem_range.1 hk),rfl,rfl⟩
 rintro⟨h1,h2,h3⟩;unfold pgLines;rcases hp.vertCases hne h1 with⟨e,y,hy,hx⟩|⟨e,o,ho,hm,hx⟩
 ·
  refine List.mem_append_left _ (List.mem_map.2 ⟨y,?_,hx⟩);refine(line_is hp.len).2 ⟨?_,?_,?_⟩
  · rw [vertM_id hy];exact hy
  · rw [← h2,← hx];rfl
  rw [← h3,← hx];rfl
 have hk:o.kind=3:=by rw [← h2,hx]
 have hop:=hp.op _ _ ho;cases hop with
 | kill _=>exact absurd hk (show ¬ (5:UInt8)=3 by decide)
 | file=>exact absurd hk (show ¬ (1:UInt8)=3 by decide)
 | name _ _=>exact absurd hk (show ¬ (2:UInt8)=3 by decide)
 | tie _ _ _=>exact absurd hk (show ¬ (4:UInt8)=3 by decide)
 | @line v t h4 h5 =>
  have ef:v=f:=by rw [← h3,hx];rfl
  subst ef;obtain⟨k,hk1,hk2⟩:=h.only3 _ _ ho;rcases pg_cases hk2 with g1|⟨m,t',g1,g2,g3⟩|⟨m,_,g2⟩
  · obtain⟨_,_,_,e2⟩:=mem_egKill.1 (List.mem_of_getElem? g1);exact absurd (congrArg OpM.kind e2) (show ¬ (3:UInt8)=5 by decide)
  · have hc:=(List.getElem?_eq_some_iff.1 g2).1;refine List.mem_append_right _ (List.mem_map.2 ⟨m,List.mem_range.2 hc,?_⟩);have et:t'=t:=(congrArg OpM.text g3).symm;subst et;have ev:x.id=⟨id,UInt8.ofNat (c+(egKill (linesM L v) (relM L v) want).length+m)⟩:=(by rw [Nat.add_assoc,← g1,← hk1,UInt8.ofNat_self,← e]);rw [hx];unfold pgNewV;rw [getD_of g2,ev];rfl
  obtain⟨_,_,_,_,_,_,_,_,_,_,e2⟩:=mem_pgTies.1 (List.mem_of_getElem? g2);exact absurd (congrArg OpM.kind e2) (show ¬ (3:UInt8)=4 by decide)
theorem PgF.nodup2(h:PgF L id O f c want)(hp:PgIn L id O):((pgLines L id O f c want).map (·.id)).Nodup:=by
 unfold pgLines List.Nodup;rw [List.map_append,List.pairwise_append];refine⟨?_,?_,?_⟩
 · rw [List.map_map];exact lines_ids hp.len f
 · rw [List.map_map,List.pairwise_map];refine(List.pairwise_lt_range (n:=(egNew (linesM L f) (relM L f) want).length)).imp_of_mem ?_;intro a b ha hb hab e;have ha:=(hp.ownN h.emb (List.mem_range.1 ha)).1;have hb:=(hp.ownN h.emb (List.mem_range.1 hb)).1;have e2:=congrArg (fun v:VidM=>v.n.toNat) e;have e2:(UInt8.ofNat (c+(egKill (linesM L f) (relM L f) want).length+a)).toNat=(UInt8.ofNat (c+(egKill (linesM L f) (relM L f) want).length+b)).toNat:=e2;rw [ha,hb] at e2;omega
 intro x hx y hy e;rw [List.map_map] at hx hy;obtain⟨x0,hx0,rfl⟩:=List.mem_map.1 hx;obtain⟨k,hk,rfl⟩:=List.mem_map.1 hy;have h1:=(hp.vert ((line_is hp.len).1 hx0).1).2.2;exact h1 (congrArg VidM.pid e)
theorem PgF.perm(h:PgF L id O f c want)(hp:PgIn L id O)(hne:O≠[]):(linesM (L++[pgPat id O]) f).Perm (pgLines L id O f c want):=by
 have hnd:∀ {l:List VertM},(l.map (·.id)).Nodup→l.Nodup:=fun {l} q=>by unfold List.Nodup at q ⊢;rw [List.pairwise_map] at q;exact q.imp fun hab e=>hab (by rw [e])
 exact(List.perm_ext_iff_of_nodup (hnd (lines_ids (wf_len (hp.wf2 hne)) f)) (hnd (h.nodup2 hp))).2 fun x=>h.lines2 hp hne x
theorem PgF.place(h:PgF L id O f c want)(hp:PgIn L id O)(hv:(pgVids (linesM L f) (relM L f) id c want)[j]? = some v):(plc (linesM L f).length (egKept (linesM L f) (relM L f) want) 0)[j]? = some (placeM (pgLines L id O f c want) v):=by
 rcases pg_vid hv with⟨x,i,h1,rfl,h3⟩|⟨k,t,z,h1,_,rfl,h3,h4,h5⟩
 · rw [plc_get _ _ 0 j _ h3,if_pos (by omega),Int.toNat_natCast];have:=place_at (h.nodup2 hp) (pgLines_old h1);rw [show(updO O x).id=x.id from rfl] at this;rw [this]
 rw [plc_get _ _ 0 j _ h3,if_neg (by omega),Nat.add_zero,← h5];have hc:=(List.getElem?_eq_some_iff.1 h1).1;have:=place_at (h.nodup2 hp) (pgLines_new hc);rw [show(pgNewV L f id c want k).id=⟨id,UInt8.ofNat (c+(egKill (linesM L f) (relM L f) want).length+k)⟩ from rfl] at this;rw [this]
theorem PgIn.fileOld(hp:PgIn L id O)(hv:vertM L v=some x):fileAt (L++[pgPat id O]) v=fileAt L v:=by unfold fileAt;rw [hp.vertOld (hp.vert hv).2.2,hv];rfl
theorem PgF.fileVid(h:PgF L id O f c want)(hp:PgIn L id O)(hne:O≠[])(hv:(pgVids (linesM L f) (relM L f) id c want)[j]? = some v):fileAt (L++[pgPat id O]) v=f:=by
 rcases pg_vid hv with⟨x,i,h1,rfl,_⟩|⟨k,t,z,h1,_,rfl,_⟩
 · have h2:=hp.line h1;rw [hp.fileOld h2.1];unfold fileAt;rw [h2.1];exact h2.2.2.1
 have hc:=(List.getElem?_eq_some_iff.1 h1).1;have:=h.vertC hp hne hc;unfold fileAt;rw [show(⟨id,UInt8.ofNat (c+(egKill (linesM L f) (relM L f) want).length+k)⟩:VidM)=(pgNewV L f id c want k).id from rfl,this];rfl
theorem PgF.placeOld(h:PgF L id O f c want)(hp:PgIn L id O)(hv:v∈(linesM L f).map (·.id)):placeM (pgLines L id O f c want) v=placeM (linesM L f) v:=by obtain⟨x,hx,e⟩:=place_get hv;have:=place_at (h.nodup2 hp) (pgLines_old (c:=c) (want:=want) hx);rw [show(updO O x).id=x.id from rfl,e] at this;exact this
theorem edge_old(hw:WfG L){e:EdgeM}(h3:hasE L e=true):∃ x,vertM L e.1=some x:=by
 unfold hasE at h3;obtain⟨p,hp,h4⟩:=List.any_eq_true.1 h3;obtain⟨o,ho,h5⟩:=List.any_eq_true.1 h4;simp only [Bool.and_eq_true,decide_eq_true_eq] at h5;obtain⟨h6,h7,h8⟩:=h5;have hk:=hw.kinds p hp o ho;unfold refMet at hk;rw [if_neg (by rw [h6];decide),if_neg (by rw [h6];decide),if_pos h6,h7,h8] at hk;simp only [Bool.and_eq_true] at hk;have k1:=hk.1;unfold isKind at k1;cases hx:vertM L e.1 with
 | none=>rw [hx] at k1;cases k1
 | some x=>exact⟨x,rfl⟩
theorem PgF.chain(h:PgF L id O f c want)(hp:PgIn L id O)(hne:O≠[]):Chn (relM L f) (linesM L f).length (plc (linesM L f).length (egKept (linesM L f) (relM L f) want) 0) (pgRel L id O f c want):=by
 have hkl:=(egKept_ok (linesM L f) (relM L f) want).len;have hvl:=pgVids_len (l:=linesM L f) (R:=relM L f) (want:=want) (id:=id) (c:=c);have hrel:∀ s,s∈pgRel L id O f c want↔∃ e,(hasE (L++[pgPat id O]) e=true∧fileAt (L++[pgPat id O]) e.1=f)∧(placeM (pgLines L id O f c want) e.1,placeM (pgLines L id O f c want) e.2)=s:=by intro s;unfold pgRel;rw [List.mem_map];exact exists_congr fun e=>and_congr mem_steps Iff.rfl
 refine(egKept_ok (linesM L f) (relM L f) want).chn (relM_lt hp.wf hp.len f) ?_ ?_ ?_
 ·
  intro s hs;obtain⟨e,⟨h1,h2⟩,rfl⟩:=(hrel s).1 hs;rcases (PgIn.hasE2 e).1 h1 with h3|⟨o,ho,k1,k2,k3⟩
  · left;obtain⟨x,hx⟩:=edge_old hp.wf h3;rw [hp.fileOld hx] at h2;have hst:e∈stepsM L f:=mem_steps.2 ⟨h3,h2⟩;obtain⟨e1,e2⟩:=step_ends hp.wf hp.len hst;rw [h.placeOld hp e1,h.placeOld hp e2];unfold relM;exact List.mem_map.2 ⟨e,hst,rfl⟩
  obtain⟨j,x,y,u,v,g1,g2,g3,g4,g5,eo⟩:=mem_pgTies.1 (h.only4 o ho k1 (by rw [k2];exact h2));rw [eo] at k2 k3;have k2:u=e.1:=k2;have k3:v=e.2:=k3;rw [k2] at g3;rw [k3] at g4;exact .inr ⟨j,h.place hp g3,h.place hp g4⟩
 · intro s hs;unfold relM at hs;obtain⟨e,he,rfl⟩:=List.mem_map.1 hs;obtain⟨e1,e2⟩:=step_ends hp.wf hp.len he;obtain⟨h1,h2⟩:=mem_steps.1 he;refine(hrel _).2 ⟨e,⟨(PgIn.hasE2 e).2 (.inl h1),?_⟩,by rw [h.placeOld hp e1,h.placeOld hp e2]⟩;obtain⟨x,hx⟩:=edge_old hp.wf h1;rw [hp.fileOld hx];exact h2
 intro j a b ha hb;have hb1:=(List.getElem?_eq_some_iff.1 hb).1;rw [plc_len] at hb1;have hx:=List.getElem?_eq_getElem (l:=egKept (linesM L f) (relM L f) want) (i:=j) (by omega);have hy:=List.getElem?_eq_getElem (l:=egKept (linesM L f) (relM L f) want) (i:=j+1) (by omega);have hu:=List.getElem?_eq_getElem (l:=pgVids (linesM L f) (relM L f) id c want) (i:=j) (by omega);have hv:=List.getElem?_eq_getElem (l:=pgVids (linesM L f) (relM L f) id c want) (i:=j+1) (by omega)
 by_cases hc:(egKept (linesM L f) (relM L f) want)[j]<0∨(egKept (linesM L f) (relM L f) want)[j+1]<0∨¬ BeforeP (relM L f) ((egKept (linesM L f) (relM L f) want)[j]).toNat ((egKept (linesM L f) (relM L f) want)[j+1]).toNat
 ·
  left;have ho:(⟨4,(pgVids (linesM L f) (relM L f) id c want)[j],(pgVids (linesM L f) (relM L f) id c want)[j+1],⟨#[]⟩⟩:OpM)∈O:=by have hm:=mem_pgTies.2 ⟨j,_,_,_,_,hx,hy,hu,hv,hc,rfl⟩;obtain⟨k,hk⟩:=List.getElem?_of_mem (show _∈pgOps (linesM L f) (relM L f) f id c want from List.mem_append_right _ hm);exact List.mem_of_getElem? (h.emb _ _ hk)
  refine(hrel _).2 ⟨((pgVids (linesM L f) (relM L f) id c want)[j],(pgVids (linesM L f) (relM L f) id c want)[j+1]),⟨(PgIn.hasE2 _).2 (.inr ⟨_,ho,rfl,rfl,rfl⟩),h.fileVid hp hne hu⟩,?_⟩;have e1:=h.place hp hu;have e2:=h.place hp hv;rw [ha] at e1;rw [hb] at e2;rw [Option.some.inj e1,Option.some.inj e2]
 right;have h0:0≤(egKept (linesM L f) (relM L f) want)[j]:=by refine Classical.byContradiction fun q=>hc (.inl (by omega))
 have h1:0≤(egKept (linesM L f) (relM L f) want)[j+1]:=by refine Classical.byContradiction fun q=>hc (.inr (.inl (by omega)))
 have h2:BeforeP (relM L f) ((egKept (linesM L f) (relM L f) want)[j]).toNat ((egKept (linesM L f) (relM L f) want)[j+1]).toNat:=Classical.byContradiction fun q=>hc (.inr (.inr q));rw [kept_plc hx h0] at ha;rw [kept_plc hy h1] at hb;rw [← Option.some.inj ha,← Option.some.inj hb];exact h2.1
theorem PgF.hitAt(h:PgF L id O f c want)(hp:PgIn L id O)(hx:(linesM L f)[i]? = some x)(ha:aliveQL (linesM L f) i=true):hitO O x.id = !(egKept (linesM L f) (relM L f) want).contains (Int.ofNat i):=by
 rw [Bool.eq_iff_iff];constructor
 · intro h0;obtain⟨o,ho,h1⟩:=h.only5 x (List.mem_of_getElem? hx) h0;obtain⟨k,h2,h3,rfl⟩:=mem_egKill.1 ho;have hk:=List.getElem?_eq_getElem (aliveX_lt h2);rw [getD_of hk] at h1;have:=lines_inj hp.len hk hx h1;subst this;rw [h3];rfl
 intro h1;have h2:(egKept (linesM L f) (relM L f) want).contains (Int.ofNat i)=false:=by
  cases hc:(egKept (linesM L f) (relM L f) want).contains (Int.ofNat i) with
  | true=>rw [hc] at h1;cases h1
  | false=>rfl
 have hm:(⟨5,((linesM L f).getD i noVert).id,noVid,⟨#[]⟩⟩:OpM)∈egKill (linesM L f) (relM L f) want:=mem_egKill.2 ⟨i,by unfold aliveX;exact List.mem_filter.2 ⟨order_mem _ _ (List.getElem?_eq_some_iff.1 hx).1,ha⟩,h2,rfl⟩;obtain⟨k,hk⟩:=List.getElem?_of_mem (show _∈pgOps (linesM L f) (relM L f) f id c want from List.mem_append_left _ (List.mem_append_left _ hm));unfold hitO;rw [List.any_eq_true];refine⟨_,List.mem_of_getElem? (h.emb _ _ hk),?_⟩;rw [getD_of hx];simp
theorem PgF.chainL(h:PgF L id O f c want)(hp:PgIn L id O)(hne:O≠[]):ChnL (pgLines L id O f c want) (relM L f) (linesM L f).length (plc (linesM L f).length (egKept (linesM L f) (relM L f) want) 0) (pgRel L id O f c want):=by
 have hnl:=egNew_len (l:=linesM L f) (R:=relM L f) (want:=want);have hnew:∀ k,k<(egNew (linesM L f) (relM L f) want).length→(linesM L f).length+k∈plc (linesM L f).length (egKept (linesM L f) (relM L f) want) 0:=by intro k hk;obtain⟨j,x,h1,h2,h3⟩:=negs_find (egKept (linesM L f) (relM L f) want) k (by omega);have:=plc_get (linesM L f).length _ 0 j x h1;rw [if_neg (by omega),h3,Nat.add_zero] at this;exact List.mem_of_getElem? this
 refine⟨h.chain hp hne,fun i => ?_,fun i hi => ?_⟩;rotate_left
 ·
  rw [pgLines_len] at hi
  by_cases hi2:i<(linesM L f).length
  · exact .inl hi2
  obtain⟨k,rfl⟩:∃ k,i=(linesM L f).length+k:=⟨i - (linesM L f).length,by omega⟩;exact .inr (hnew k (by omega))
 rw [pgLines_len]
 by_cases hi:i<(linesM L f).length
 ·
  have hx:=List.getElem?_eq_getElem hi;have hx2:=pgLines_old (id:=id) (O:=O) (c:=c) (want:=want) hx;have ha1:=alive_at hx;have ha2:=alive_at hx2;constructor
  ·
   rintro⟨_,h2⟩;rw [ha2] at h2;have h3:((linesM L f)[i].dead || hitO O (linesM L f)[i].id)=false:=by
    cases hc:((linesM L f)[i].dead || hitO O (linesM L f)[i].id) with
    | false=>rfl
    | true =>have:(updO O (linesM L f)[i]).dead=true:=hc;rw [this] at h2;cases h2
   rw [Bool.or_eq_false_iff] at h3;rw [h3.1] at ha1;have h4:=h.hitAt hp hx ha1;rw [h3.2] at h4;have h5:(egKept (linesM L f) (relM L f) want).contains (Int.ofNat i)=true:=by
    cases hc:(egKept (linesM L f) (relM L f) want).contains (Int.ofNat i) with
    | true=>rfl
    | false=>rw [hc] at h4;cases h4
   obtain⟨j,hj⟩:=killed_iff.1 h5;have:=kept_plc hj (by omega);rw [Int.toNat_natCast] at this;exact List.mem_of_getElem? this
  intro hm;refine⟨by omega,?_⟩;obtain⟨j,hj⟩:=List.getElem?_of_mem hm;obtain⟨q,_,h2,h3⟩:=(egKept_ok (linesM L f) (relM L f) want).old hj hi;have hal:=firm_alive (List.mem_of_getElem? h2);have h4:=h.hitAt hp hx hal;rw [killed_iff.2 ⟨j,h3⟩] at h4;rw [ha1] at hal;rw [ha2];show(!((linesM L f)[i].dead || hitO O (linesM L f)[i].id))=true;rw [h4];cases hd:(linesM L f)[i].dead with
  | false=>rfl
  | true=>rw [hd] at hal;cases hal
 constructor
 · rintro⟨h1,_⟩;obtain⟨k,rfl⟩:∃ k,i=(linesM L f).length+k:=⟨i - (linesM L f).length,by omega⟩;exact hnew k (by omega)
 intro hm;obtain⟨j,hj⟩:=List.getElem?_of_mem hm;have hjl:=(List.getElem?_eq_some_iff.1 hj).1;rw [plc_len] at hjl;have hx:=List.getElem?_eq_getElem hjl;have hpq:=plc_get (linesM L f).length _ 0 j _ hx;rw [hj] at hpq;have hpq:=Option.some.inj hpq
 by_cases hneg:(egKept (linesM L f) (relM L f) want)[j]<0
 ·
  rw [if_neg (by omega),Nat.add_zero] at hpq;have h1:=negs_all hx hneg;obtain⟨k,rfl⟩:∃ k,i=(linesM L f).length+k:=⟨i - (linesM L f).length,by omega⟩;have hc:k<(egNew (linesM L f) (relM L f) want).length:=by omega
  exact⟨by omega,by rw [alive_at (pgLines_new hc)];rfl⟩
 rcases (egKept_ok (linesM L f) (relM L f) want).some' j _ hx with q|⟨q,a,_,h3,h4⟩
 · exact absurd q hneg
 rw [h4,if_pos (by omega),Int.toNat_natCast] at hpq;have:=firmX_lt (List.mem_of_getElem? h3);omega
theorem PgF.texts(h:PgF L id O f c want)(hp:PgIn L id O):(plc (linesM L f).length (egKept (linesM L f) (relM L f) want) 0).map (textAt (pgLines L id O f c want))=want:=by
 have hk:=egKept_ok (linesM L f) (relM L f) want;refine List.ext_getElem? fun j => ?_;rw [List.getElem?_map]
 by_cases hj:j<want.length
 rotate_left
 · rw [List.getElem?_eq_none (by rw [plc_len,hk.len];omega),List.getElem?_eq_none (by omega)];rfl
 have hx:=List.getElem?_eq_getElem (l:=egKept (linesM L f) (relM L f) want) (i:=j) (by rw [hk.len];exact hj);have hpq:=plc_get (linesM L f).length _ 0 j _ hx;rw [hpq];rcases hk.some' j _ hx with h1|⟨q,i,h2,h3,h4⟩
 · rw [if_neg (by omega),Nat.add_zero];have ht:=List.getElem?_eq_getElem hj;have hn:=negT_get _ _ j _ _ hk.len hx ht h1;have hc:=(List.getElem?_eq_some_iff.1 hn).1;have:=pgLines_new (f:=f) (id:=id) (L:=L) (O:=O) (c:=c) (want:=want) hc;show some (textAt _ _)=_;rw [textAt_get this,ht];show some ((egNew (linesM L f) (relM L f) want).getD _ ⟨#[]⟩)=_;rw [getD_of (show(egNew (linesM L f) (relM L f) want)[_]? = some _ from hn)]
 rw [h4,if_pos (by omega),Int.toNat_natCast];have hxi:=List.getElem?_eq_getElem (firmX_lt (List.mem_of_getElem? h3));show some (textAt _ _)=_;rw [textAt_get (pgLines_old (id:=id) (O:=O) (c:=c) (want:=want) hxi),pair_text h2 h3,textAt_get hxi];rfl
theorem PgF.behind(h:PgF L id O f c want)(hp:PgIn L id O)(hne:O≠[]):lnSeen (linesM (L++[pgPat id O]) f) (relM (L++[pgPat id O]) f)=want∧lnOdd (linesM (L++[pgPat id O]) f) (relM (L++[pgPat id O]) f)=0∧∀ id' c',linesOps (linesM (L++[pgPat id O]) f) (relM (L++[pgPat id O]) f) f id' c' want=[]:=by
 have hpm:=h.perm hp hne;have hlen:=hpm.length_eq;have hids:=lines_ids (wf_len (hp.wf2 hne)) f;have hV:=h.nodup2 hp;let π:Nat→Nat:=fun i=>placeM (linesM (L++[pgPat id O]) f) ((pgLines L id O f c want).getD i noVert).id;have hat:∀ i x,(pgLines L id O f c want)[i]? = some x→(linesM (L++[pgPat id O]) f)[π i]? = some x:=by
  intro i x hx;have hm:x∈linesM (L++[pgPat id O]) f:=hpm.mem_iff.2 (List.mem_of_getElem? hx);obtain⟨k,hk⟩:=List.getElem?_of_mem hm;have:π i=k:=by show placeM _ ((pgLines L id O f c want).getD i noVert).id=k;rw [getD_of hx];exact place_at hids hk
  rw [this];exact hk
 have hget:∀ i,i<(pgLines L id O f c want).length→∃ x,(pgLines L id O f c want)[i]? = some x:=fun i hi=>⟨_,List.getElem?_eq_getElem hi⟩;have hinj:∀ a b,a<(pgLines L id O f c want).length→b<(pgLines L id O f c want).length→π a=π b→a=b:=by intro a b ha hb e;obtain⟨x,hx⟩:=hget a ha;obtain⟨y,hy⟩:=hget b hb;have h1:=hat a x hx;rw [e,hat b y hy] at h1;have e2:y=x:=Option.some.inj h1;subst e2;have h2:=place_at hV hx;have h3:=place_at hV hy;omega
 have hon:∀ y,y<(linesM (L++[pgPat id O]) f).length→∃ a,a<(pgLines L id O f c want).length∧π a=y:=by intro y hy;have hx:=List.getElem?_eq_getElem hy;obtain⟨a,ha⟩:=List.getElem?_of_mem (hpm.mem_iff.1 (List.mem_of_getElem? hx));refine⟨a,(List.getElem?_eq_some_iff.1 ha).1,?_⟩;show placeM _ ((pgLines L id O f c want).getD a noVert).id=y;rw [getD_of ha];exact place_at hids hx
 have hids2:∀ v,v∈(linesM (L++[pgPat id O]) f).map (·.id)→v∈(pgLines L id O f c want).map (·.id)∧π (placeM (pgLines L id O f c want) v)=placeM (linesM (L++[pgPat id O]) f) v:=by intro v hv;obtain⟨x,hx,rfl⟩:=List.mem_map.1 hv;obtain⟨a,ha⟩:=List.getElem?_of_mem (hpm.mem_iff.1 hx);refine⟨List.mem_map.2 ⟨x,List.mem_of_getElem? ha,rfl⟩,?_⟩;rw [place_at hV ha];show placeM _ ((pgLines L id O f c want).getD a noVert).id=_;rw [getD_of ha]
 have hsteps:∀ e∈stepsM (L++[pgPat id O]) f,e.1∈(linesM (L++[pgPat id O]) f).map (·.id)∧e.2∈(linesM (L++[pgPat id O]) f).map (·.id):=fun e he=>step_ends (hp.wf2 hne) (wf_len (hp.wf2 hne)) he;have hanew:Anew (pgRel L id O f c want) (relM (L++[pgPat id O]) f) (pgLines L id O f c want).length π:=by
  refine⟨?_,hinj,fun s => ?_⟩
  · intro s hs;obtain⟨e,he,rfl⟩:=List.mem_map.1 hs;obtain⟨e1,e2⟩:=hsteps e he;exact⟨place_lt (hids2 _ e1).1,place_lt (hids2 _ e2).1⟩
  unfold relM pgRel;rw [List.mem_map];constructor
  · rintro⟨e,he,rfl⟩;obtain⟨e1,e2⟩:=hsteps e he;refine⟨_,List.mem_map.2 ⟨e,he,rfl⟩,?_⟩;show(π (placeM _ e.1),π (placeM _ e.2))=_;rw [(hids2 _ e1).2,(hids2 _ e2).2]
  rintro⟨s',hs',rfl⟩;obtain⟨e,he,rfl⟩:=List.mem_map.1 hs';obtain⟨e1,e2⟩:=hsteps e he;refine⟨e,he,?_⟩;show _=(π (placeM _ e.1),π (placeM _ e.2));rw [(hids2 _ e1).2,(hids2 _ e2).2]
 have hcl:=(h.chainL hp hne).anew hanew (fun a ha=>by
  obtain⟨x,hx⟩:=hget a ha;exact(List.getElem?_eq_some_iff.1 (hat a x hx)).1) (fun a ha=>by
  obtain⟨x,hx⟩:=hget a ha;rw [alive_at hx,alive_at (hat a x hx)]) hon
 have ht:((plc (linesM L f).length (egKept (linesM L f) (relM L f) want) 0).map π).map (textAt (linesM (L++[pgPat id O]) f))=want:=by rw [List.map_map];refine Eq.trans (List.map_congr_left fun i hi => ?_) (h.texts hp);obtain⟨x,hx⟩:=hget i ((h.chainL hp hne).lt hi);show textAt _ (π i)=_;rw [textAt_get hx,textAt_get (hat i x hx)]
 have hs:=hcl.seen;rw [ht] at hs;exact⟨hs.1,hs.2,fun id' c'=>edit_nil (id:=id) (c:=0) (hcl.done ht)⟩
theorem eg_still(hw:WfG L){want:List ByteArray}{id:PidM}{c:Nat}(he:linesOps (linesM L f) (relM L f) f id c want=[]):lnSeen (linesM L f) (relM L f)=want∧lnOdd (linesM L f) (relM L f)=0:=by
 have hk:=egKept_ok (linesM L f) (relM L f) want;have hvl:=pgVids_len (l:=linesM L f) (R:=relM L f) (want:=want) (id:=id) (c:=c);have hnl:=egNew_len (l:=linesM L f) (R:=relM L f) (want:=want);have h3:egKill (linesM L f) (relM L f) want=[]∧egNew (linesM L f) (relM L f) want=[]∧pgTies (linesM L f) (relM L f) id c want=[]:=by rw [linesOps_eq] at he;unfold pgOps at he;rw [List.append_eq_nil_iff,List.append_eq_nil_iff,List.map_eq_nil_iff] at he;exact⟨he.1.1,he.1.2,he.2⟩
 obtain⟨hK,hN,hT⟩:=h3;have hall:∀(j:Nat) (x:Int),(egKept (linesM L f) (relM L f) want)[j]? = some x→0≤x:=by intro j x hx;refine Classical.byContradiction fun q => ?_;have:=negs_all hx (by omega);rw [← hnl,hN] at this;exact absurd this (Nat.not_lt_zero _)
 have hget:∀(j a:Nat),(plc (linesM L f).length (egKept (linesM L f) (relM L f) want) 0)[j]? = some a→(egKept (linesM L f) (relM L f) want)[j]? = some (a:Int):=by intro j a ha;have hjl:=(List.getElem?_eq_some_iff.1 ha).1;rw [plc_len] at hjl;have hx:=List.getElem?_eq_getElem hjl;have hp:=plc_get (linesM L f).length _ 0 j _ hx;have h0:=hall j _ hx;rw [ha,if_pos h0] at hp;rw [hx,Option.some.inj hp];congr 1;omega
 have hchn:Chn (relM L f) (linesM L f).length (plc (linesM L f).length (egKept (linesM L f) (relM L f) want) 0) (relM L f):=by refine hk.chn (relM_lt hw (wf_len hw) f) (fun s hs=>.inl hs) (fun s hs=>hs) fun j a b ha hb=>.inr ?_;have hb1:=(List.getElem?_eq_some_iff.1 hb).1;rw [plc_len,hk.len] at hb1;have hx:=hget j a ha;have hy:=hget (j+1) b hb;have hu:=List.getElem?_eq_getElem (l:=pgVids (linesM L f) (relM L f) id c want) (i:=j) (by omega);have hv:=List.getElem?_eq_getElem (l:=pgVids (linesM L f) (relM L f) id c want) (i:=j+1) (by omega);refine Classical.byContradiction fun q => ?_;have:(⟨4,(pgVids (linesM L f) (relM L f) id c want)[j],(pgVids (linesM L f) (relM L f) id c want)[j+1],⟨#[]⟩⟩:OpM)∈pgTies (linesM L f) (relM L f) id c want:=mem_pgTies.2 ⟨j,_,_,_,_,hx,hy,hu,hv,.inr (.inr fun hb=>q (by rw [Int.toNat_natCast,Int.toNat_natCast] at hb;exact hb.1)),rfl⟩;rw [hT] at this;exact absurd this List.not_mem_nil
 have hin:∀ i,i∈plc (linesM L f).length (egKept (linesM L f) (relM L f) want) 0→i<(linesM L f).length:=by
  intro i hi;obtain⟨j,hj⟩:=List.getElem?_of_mem hi;rcases hk.some' j _ (hget j i hj) with q|⟨q,a,_,h3,h4⟩
  · omega
  have:=firmX_lt (List.mem_of_getElem? h3);omega
 have hcl:ChnL (linesM L f) (relM L f) (linesM L f).length (plc (linesM L f).length (egKept (linesM L f) (relM L f) want) 0) (relM L f):=by
  refine⟨hchn,fun i=>⟨?_,fun hi => ?_⟩,fun i hi=>.inl hi⟩
  ·
   rintro⟨h1,h2⟩;have h3:(egKept (linesM L f) (relM L f) want).contains (Int.ofNat i)=true:=by
    cases hc:(egKept (linesM L f) (relM L f) want).contains (Int.ofNat i) with
    | true=>rfl
    | false =>have:(⟨5,((linesM L f).getD i noVert).id,noVid,⟨#[]⟩⟩:OpM)∈egKill (linesM L f) (relM L f) want:=mem_egKill.2 ⟨i,by unfold aliveX;exact List.mem_filter.2 ⟨order_mem _ _ h1,h2⟩,hc,rfl⟩;rw [hK] at this;exact absurd this List.not_mem_nil
   obtain⟨j,hj⟩:=killed_iff.1 h3;have:=kept_plc hj (by omega);rw [Int.toNat_natCast] at this;exact List.mem_of_getElem? this
  refine⟨hin i hi,?_⟩;obtain⟨j,hj⟩:=List.getElem?_of_mem hi;obtain⟨q,_,h2,_⟩:=hk.old hj (hin i hi);exact firm_alive (List.mem_of_getElem? h2)
 have ht:(plc (linesM L f).length (egKept (linesM L f) (relM L f) want) 0).map (textAt (linesM L f))=want:=by
  refine List.ext_getElem? fun j => ?_;rw [List.getElem?_map]
  by_cases hj:j<want.length
  · have hp:=List.getElem?_eq_getElem (l:=plc (linesM L f).length (egKept (linesM L f) (relM L f) want) 0) (i:=j) (by rw [plc_len,hk.len];exact hj);obtain⟨q,h1,h2,_⟩:=hk.old hp (hin _ (List.getElem_mem _));rw [hp,pair_text h1 h2];rfl
  rw [List.getElem?_eq_none (by rw [plc_len,hk.len];omega),List.getElem?_eq_none (by omega)];rfl
 have hs:=hcl.seen;rw [ht] at hs;exact hs
end
end Go.Proofs.YtjccmcgglfncdaaGreatDoor
