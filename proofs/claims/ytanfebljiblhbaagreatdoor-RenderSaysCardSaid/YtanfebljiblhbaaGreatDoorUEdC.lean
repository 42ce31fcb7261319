/- Part of the proof that any graph's tree, and what is at odds in it, are as the document says. No conditions. -/
import Derived.Test.YtanfebljiblhbaaGreatDoorULay3
import Derived.Test.YtanfebljiblhbaaGreatDoorUEdB
set_option linter.unusedVariables false
set_option linter.unusedSimpArgs false
set_option maxRecDepth 100000
set_option maxHeartbeats 40000000
namespace Go.Proofs.YtanfebljiblhbaaGreatDoor
open Go Go.RowKit
section
variable{s t:List Nat}{B cap g:Nat}{w:World}
theorem encI_map(s:List Nat):s.flatMap encI=(s.map Int.ofNat).map (Value.int .i64):=by
 induction s with
 | nil=>rfl
 | cons x s ih=>rw [List.flatMap_cons,ih];rfl
theorem putCells_encI{α:Type}[Inhabited α](enc:α→Value)(d:Array α)(c:Array Value):Go.Sort.putCells enc 0 d c=Go.Sort.putCells id 0 (d.map enc) c:=by
 apply Array.ext_getElem?;intro t;simp only [Go.Sort.putCells,Array.getElem?_mapIdx,Array.size_map,Nat.sub_zero,id]
 by_cases h:t<d.size
 · rw [getElem!_pos d t h,getElem!_pos (d.map enc) t (by simpa using h)];simp
 simp [h]
theorem OwnAt.holdsI{e:TypeId}(h:OwnAt w B e 1 g s.length cap (s.flatMap encI)):Go.Sort.Holds (Value.int .i64) w g 0 (s.map Int.ofNat).toArray:=by
 intro j hj;rw [Nat.zero_add];refine⟨?_,h.free j⟩;refine h.cell ?_;have hj':j<s.length:=by simpa using hj
 rw [encI_map,List.getElem?_map,List.getElem?_map,List.getElem?_eq_getElem hj',getElem!_pos (s.map Int.ofNat).toArray j hj];simp
theorem OwnAt.putI{e:TypeId}(h:OwnAt w B e 1 g s.length cap (s.flatMap encI))(hl:t.length=s.length)(n:Nat)(os:Array Obj) :
  OwnAt (Go.Sort.grow (Go.Sort.putRow (Value.int .i64) (Go.Sort.ahead w n) g 0 (t.map Int.ofNat).toArray) os) B e 1 g s.length cap (t.flatMap encI)∧w.grownBy (Go.Sort.grow (Go.Sort.putRow (Value.int .i64) (Go.Sort.ahead w n) g 0 (t.map Int.ofNat).toArray) os) (some g):=by
 have hlt:=h.lt;obtain⟨junk,h1,h2⟩:=h.at';have hl2:(s.flatMap encI).length=(t.flatMap encI).length:=by rw [encI_map,encI_map];simp [hl]
 have hheap:(Go.Sort.putRow (Value.int .i64) (Go.Sort.ahead w n) g 0 (t.map Int.ofNat).toArray).heap[g]? = some (.cells (t.flatMap encI++junk).toArray e (0,0)):=by unfold Go.Sort.putRow Go.Sort.mapBlock;simp only [Array.getElem?_modify,if_pos];have:(Go.Sort.ahead w n).heap=w.heap:=rfl;rw [this,h1];simp only [Option.map_some,Go.Sort.onCells];rw [putCells_encI,List.map_toArray,← encI_map,putCells_row _ _ _ hl2]
 refine⟨⟨⟨junk,?_,?_⟩,by rw [← hl2];exact h.len,h.base,h.nc,h.cm⟩,?_⟩
 · rw [Go.Sort.heap_grow_old _ _ (by simp [Go.Sort.putRow,Go.Sort.mapBlock];exact hlt)];exact hheap
 · rw [List.length_append,← hl2,← List.length_append];exact h2
 refine⟨rfl,rfl,rfl,by simp [Go.Sort.putRow,Go.Sort.mapBlock,Go.Sort.ahead],fun i hi hne => ?_⟩;rw [Go.Sort.heap_grow_old _ _ (by simp [Go.Sort.putRow,Go.Sort.mapBlock];exact hi)];unfold Go.Sort.putRow Go.Sort.mapBlock;simp only [Array.getElem?_modify];rw [if_neg (fun e=>hne (by rw [e]))];rfl
theorem sortI_eq(hn:s.Nodup)(ht:t.Pairwise (· < ·))(hm:∀ x,x∈t↔x∈s):((s.map Int.ofNat).mergeSort fun x y=>decide (x≤y))=t.map Int.ofNat:=by
 have hperm:=List.mergeSort_perm (s.map Int.ofNat) fun x y=>decide (x≤y);have hsort:((s.map Int.ofNat).mergeSort fun x y=>decide (x≤y)).Pairwise fun a b=>decide (a≤b)=true:=List.pairwise_mergeSort (fun a b c h1 h2=>by simp only [decide_eq_true_eq] at *;omega) (fun a b=>by simp only [Bool.or_eq_true,decide_eq_true_eq];omega) _;have hnd:((s.map Int.ofNat).mergeSort fun x y=>decide (x≤y)).Nodup:=hperm.nodup_iff.2 ((List.pairwise_map).2 (hn.imp fun h e=>h (Int.ofNat.inj e)));have hmem:∀ z,z∈((s.map Int.ofNat).mergeSort fun x y=>decide (x≤y))↔z∈s.map Int.ofNat:=fun z=>hperm.mem_iff;refine rises_ext (key:=Int.toNat) ?_ ?_ fun z => ?_
 · have h2:=List.pairwise_and_iff.2 ⟨hsort,hnd⟩;refine h2.imp_of_mem fun {a b} ha hb h => ?_;obtain⟨x,_,rfl⟩:=List.mem_map.1 ((hmem a).1 ha);obtain⟨y,_,rfl⟩:=List.mem_map.1 ((hmem b).1 hb);have h3:=h.1;have h4:=h.2;simp only [decide_eq_true_eq] at h3;show x<y;have:x≠y:=fun e=>h4 (by rw [e]);have h5:(x:Int)≤(y:Int):=h3;omega
 · unfold Rises;rw [List.pairwise_map];exact ht.imp fun h=>h
 rw [hmem,List.mem_map,List.mem_map];exact⟨fun⟨x,h1,h2⟩=>⟨x,(hm x).2 h1,h2⟩,fun⟨x,h1,h2⟩=>⟨x,(hm x).1 h1,h2⟩⟩
def SortIRes(w:World)(B g cap:Nat)(s t:List Nat)(r:Ending)(w':World):Prop:=r=.returned (.tuple #[])∧OwnAt w' B 3 1 g s.length cap (t.flatMap encI)∧w.grownBy w' (some g)
theorem sortI_any(h:OwnAt w B 3 1 g s.length cap (s.flatMap encI))(hn:s.length≤1000000000)(hd:s.Nodup)(ht:t.Pairwise (· < ·))(hm:∀ x,x∈t↔x∈s) :
  Calls Tryz.prog 226 #[.slice (some ⟨g,0,none⟩) s.length cap] w (SortIRes w B g cap s t):=by have hcon:=AnyM.slices_Sort_int (P:=Tryz.prog) Tryz.sortInt g 0 cap (s.map Int.ofNat) w h.holdsI h.lt (by rw [List.length_map];omega);rw [List.length_map,sortI_eq hd ht hm] at hcon;refine hcon.mono ?_;rintro e w' ⟨rfl,n,os,rfl⟩;have hl:t.length=s.length:=Nat.le_antisymm (nodup_lenN (ht.imp fun h=>Nat.ne_of_lt h) fun x hx=>(hm x).1 hx) (nodup_lenN hd fun x hx=>(hm x).2 hx);obtain⟨h1,h2⟩:=h.putI hl n os;exact⟨rfl,h1,h2⟩
end
section
variable{R:List (Nat × Nat)}{l s:List Nat}{B at' gS i k n sz:Nat}{v v8:Value}{w wq wr:World}
structure SideL where
 s:List Nat
 v:Value
def encSd(x:SideL):List Value:=[x.v]
theorem encSd_len(x:SideL):(encSd x).length=1:=rfl
def seenV(S:Nat→Bool)(n:Nat):List Value:=(List.range n).map fun k=>.int .i64 (if S k then 1 else 0)
theorem seenV_len(S:Nat→Bool)(n:Nat):(seenV S n).length=n:=by unfold seenV;simp
theorem seenV_get{S:Nat→Bool}(h:k<n):(seenV S n)[k]? = some (.int .i64 (if S k then 1 else 0)):=by unfold seenV;simp [h]
theorem seenV_zero(n:Nat):seenV (fun _=>false) n=List.replicate n (.int .i64 0):=by unfold seenV;simp [List.map_const']
theorem seenV_set{S S':Nat→Bool}(h:∀ q,S' q=if q=k then true else S q):(seenV S n).set k (.int .i64 1)=seenV S' n:=by
 refine List.ext_getElem? fun q => ?_;rw [List.getElem?_set]
 by_cases hq:q<n
 ·
  rw [seenV_get hq,seenV_get hq,seenV_len,h q]
  by_cases hk:k=q
  · subst hk;simp [hq]
  have hk':¬ q=k:=fun e=>hk e.symm;simp only [if_neg hk,if_neg hk']
 have h1:(seenV S n)[q]? = none:=List.getElem?_eq_none (by rw [seenV_len];omega);have h2:(seenV S' n)[q]? = none:=List.getElem?_eq_none (by rw [seenV_len];omega);rw [h1,h2,seenV_len];split
 ·
  split
  · omega
  rfl
 rfl
theorem grown_far{w1 w2:World}{g g2:Nat}(h:w.grownBy w1 (some g))(hg:w.heap.size≤g2)(h':w1.grownBy w2 (some g2)):w.grownBy w2 (some g):=
 ⟨h'.os.trans h.os,h'.tape.trans h.tape,h'.output.trans h.output,Nat.le_trans h.size h'.size,fun k hk hn=>(h'.block k (Nat.lt_of_lt_of_le hk h.size) (fun e=>by cases e;omega)).trans (h.block k hk hn)⟩
theorem grown_belowS{w1 w2:World}{g:Nat}(h:w.grownBy w1 (some g))(h':Be w1 w2):w.grownBy w2 (some g):=
 ⟨h'.os.trans h.os,h'.tape.trans h.tape,h'.output.trans h.output,Nat.le_trans h.size h'.size,fun k hk hn=>(h'.block k (Nat.lt_of_lt_of_le hk h.size)).trans (h.block k hk hn)⟩
theorem own_lit28s{α:Type}{enc:α→List Value}(w:World)(e:TypeId)(xs:List α)(B:Nat)(hl:(xs.flatMap enc).length=xs.length*sz)(hm:xs.length≤maxLen)(hB:B≤w.heap.size):GOwn enc sz e (w.alloc (.cells (xs.flatMap enc).toArray e)) B (.slice (some ⟨w.heap.size,0,none⟩) xs.length xs.length) xs:=
 ⟨hl,.inr ⟨w.heap.size,xs.length,(xs.flatMap enc).toArray,rfl,hB,by rw [heap_alloc_new],Nat.le_refl _,hm,by simp [hl],by rw [← hl];exact List.take_length⟩⟩
theorem slSide:SlT Tryz.prog 215 89 1 24:=slT_of Tryz.underlying215 (by kernel_rfl) (by decide)
def SidesRes(w:World)(ss:List (List Nat))(e:Ending)(w':World):Prop:=∃ v xs,e=.returned v∧GOwn encSd 1 89 w' w.heap.size v xs∧(∀ x∈xs,GRow encI 1 w' x.v x.s)∧xs.map (·.s)=ss∧Be w w'
structure SiAt (wr w1:World) (gS:Nat) (R:List (Nat × Nat)) (l:List Nat) (i:Nat) (v5:Value) (xs:List SideL):Prop where
 out:GOwn encSd 1 89 wr w1.heap.size v5 xs
 rows:∀ x∈xs,GOwn encI 1 3 wr w1.heap.size x.v x.s
 bare:xs.map (·.s)=(headsM R l i).map (sideM R l)
 seen:ArrT wr gS 3 (seenV (seenB R l i) l.length)
 world:w1.grownBy wr (some gS)
def SiRel(w1:World)(gS:Nat)(R:List (Nat × Nat))(l:List Nat)(v5 v16:Value)(wr:World):Prop:=∃(i:Nat) (xs:List SideL),i≤l.length∧v16=.int .i64 i∧Hid (SiAt wr w1 gS R l i v5 xs)
structure SdAt (wq wr:World) (gS:Nat) (R:List (Nat × Nat)) (l:List Nat) (i at' k:Nat) (v8:Value) (s:List Nat):Prop where
 own:GOwn encI 1 3 wq wr.heap.size v8 s
 seen:ArrT wq gS 3 (seenV (markB R l i s) l.length)
 sd:Sd R l i at' k s
 world:wr.grownBy wq (some gS)
theorem SdAt.over{wp:World}(h:SdAt wq wr gS R l i at' k v8 s)(hb:Be wq wp):SdAt wp wr gS R l i at' k v8 s:=
 ⟨h.own.over hb,h.seen.over hb,h.sd,grown_belowS h.world hb⟩
theorem SdAt.go{k':Nat}(h:SdAt wq wr gS R l i at' k v8 s)(hs:Sd R l i at' k' s):SdAt wq wr gS R l i at' k' v8 s:=
 ⟨h.own,h.seen,hs,h.world⟩
structure SmAt (wq wr:World) (gS:Nat) (R:List (Nat × Nat)) (l:List Nat) (i at' k:Nat) (v8:Value) (s:List Nat):Prop where
 own:GOwn encI 1 3 wq wr.heap.size v8 s
 seen:ArrT wq gS 3 (seenV (markB R l i (s++[k])) l.length)
 sd:Sd R l i at' (k+1) (s++[k])
 world:wr.grownBy wq (some gS)
theorem SdAt.mark{n1:Nat}(h:SdAt wq wr gS R l i at' k v8 s)(hg:gS<wr.heap.size)(_:n1≤wr.heap.size)(hs:Sd R l i at' (k+1) (s++[k])):SmAt (wq.setCell ⟨gS,k,none⟩ (.int .i64 1)) wr gS R l i at' k v8 s:=by refine⟨own_set h.own (fun q=>by have:=gown_low h.own q;omega) _ _,?_,hs,gtr h.world (gsc _ _ _)⟩;have h9:=h.seen.set k (.int .i64 1);rw [seenV_set (S':=markB R l i (s++[k])) (fun q=>mark_snoc q)] at h9;exact h9
theorem SmAt.found{w9:World}{v9:Value}(h:SmAt wq wr gS R l i at' k v8 s)(ho:GOwn encI 1 3 w9 wr.heap.size v9 (s++[k]))(hg:wq.grownBy w9 v8.ownBlock)(hgs:gS<wr.heap.size):SdAt w9 wr gS R l i at' (k+1) v9 (s++[k]):=by
 refine⟨ho,h.seen.kept hg (fun q => ?_),h.sd,?_⟩
 · have:=gown_low h.own q.symm;omega
 cases hv:v8.ownBlock with
 | none=>rw [hv] at hg;exact⟨hg.os.trans h.world.os,hg.tape.trans h.world.tape,hg.output.trans h.world.output,Nat.le_trans h.world.size hg.size,fun q hq hn=>(hg.block q (Nat.lt_of_lt_of_le hq h.world.size) (by intro e;cases e)).trans (h.world.block q hq hn)⟩
 | some g2=>rw [hv] at hg;exact grown_far h.world (gown_low h.own hv) hg
theorem iown_more(h:w.ownsRow B 3 1 v (s.length+1) (s.flatMap encI++encI k)):∃(p:Option Addr) (c:Nat),v=.slice p (s++[k]).length c∧GOwn encI 1 3 w B v (s++[k]):=by have h2:=GOwn.snoc (x:=k) h;obtain⟨a,cap,e,_⟩:=irow_at h2.row;exact⟨a,cap,e,h2⟩
theorem near_lead(R:List (Nat × Nat))(i j:Nat):nearB R i j=(leadB R i j || leadB R j i):=rfl
theorem side_pair(R:List (Nat × Nat))(l:List Nat)(i:Nat):(sideM R l i).Pairwise (· < ·):=by unfold sideM;exact(List.pairwise_lt_range).filter _
theorem heads_few(R:List (Nat × Nat))(l:List Nat)(i:Nat):(headsM R l i).length≤i:=by unfold headsM;exact Nat.le_trans (List.length_filter_le _ _) (by rw [List.length_range];exact Nat.le_refl _)
theorem own_baseS{B':Nat}{e:TypeId}{xs:List Value}(h:w.ownsRow B e sz v n xs)(hB:B'≤B):w.ownsRow B' e sz v n xs:=by refine⟨h.1,h.2.imp id ?_⟩;rintro⟨b,cap,cur,h1,h2,h3⟩;exact⟨b,cap,cur,h1,Nat.le_trans hB h2,h3⟩
theorem own_byB{α β:Type}{enc:α→List Value}{enc':β→List Value}{sz':Nat}{e e':TypeId}{w':World}{B':Nat}{v':Value}{xs:List α}{ys:List β}(h:GOwn enc sz e w B v xs)(h':GOwn enc' sz' e' w B' v' ys)(hn:e≠e')(hgw:w.grownBy w' v'.ownBlock):GOwn enc sz e w' B v xs:=by
 refine own_grown h hgw ?_;rcases h.2 with⟨rfl,_⟩|⟨g,cap,cur,rfl,_,hg,_⟩
 · exact .inl rfl
 rcases h'.2 with⟨rfl,_⟩|⟨g',cap',cur',rfl,_,hg',_⟩
 · exact .inr (fun q=>by cases q)
 refine .inr (fun q => ?_);simp only [Value.ownBlock,Option.some.injEq] at q;subst q;rw [hg] at hg';simp only [Option.some.injEq,Obj.cells.injEq] at hg';exact hn hg'.2.1
def SdRel(wr:World)(gS:Nat)(R:List (Nat × Nat))(l:List Nat)(i:Nat)(v8 v9:Value)(wq:World):Prop:=∃(at' c:Nat) (p:Option Addr) (s:List Nat),v9=.int .i64 at'∧at'≤s.length∧v8=.slice p s.length c∧Hid (SdAt wq wr gS R l i at' 0 v8 s)
def SkRel(wr:World)(gS:Nat)(R:List (Nat × Nat))(l:List Nat)(i at':Nat)(v8 v37:Value)(wq:World):Prop:=∃(k c:Nat) (p:Option Addr) (s:List Nat),v37=.int .i64 k∧k≤l.length∧at'<s.length∧v8=.slice p s.length c∧Hid (SdAt wq wr gS R l i at' k v8 s)
attribute [local irreducible] sideM headsM seenB markB headB nearB leadB seenV
theorem bsides_any(r n:Nat)(R:List (Nat × Nat))(v:Value)(l:List Nat)(w:World)(h:RelAt w r n R)(hv:GRow encI 1 w v l)(hl:∀ i∈l,i≤1000000)(hn:l.length≤1000000)(h0:0<l.length) :
  Calls Tryz.prog 165 #[.pointer (some ⟨r,0,none⟩),v] w (SidesRes w (sidesM R l)):=by
 obtain⟨a,cap,rfl,h1,h2,hc⟩:=irow_at hv;unfold maxLen at h2;obtain⟨b,off,rfl,sb,hcb⟩:=hc.resolve_left (by omega);obtain⟨m,hmm⟩:∃ m,m=l.length:=⟨_,rfl⟩;have HC:=Lh hcb;have HR:=Lh h;have HL:=Lh hl;have HZ:=Lh (seenV_zero m);have hq:8*m≤281474976710656:=by omega
 have hmx:m≤maxLen:=by unfold maxLen;omega
 rw [← hmm] at h1 hn h0 ⊢;have HM:=Lh hmm;clear hv hcb h hl hc hmm;go_enter Tryz.func165,Tryz.ntmps165;go_upto_region 3 with(at_make;refine wpList_make_zeros slzIntE rfl _ _ rfl w.heap.size m _ rfl rfl rfl hq hmx (Nat.le_refl _) ?_;intro w1 ho1 hg1)
 have HB1:=Lh (grown_over' hg1 (fun g hg=>by cases hg));obtain⟨hA,_⟩:=own_full ho1;obtain⟨gS,hg⟩:∃ g,g=w.heap.size:=⟨_,rfl⟩;rw [← hg] at hA ⊢;rw [← HZ.o] at hA;have HA:=Lh hA;have hgl:w.heap.size≤gS:=by omega
 have hs1:=hA.arr.lt;clear hA ho1 hg1 hg;have HS0:Hid (SiAt w1 w1 gS R l 0 (.slice none 0 0) []):=Lh ⟨gown_nil _ _,fun x hx=>absurd hx (List.not_mem_nil),by unfold headsM;rfl,(by
  have e:seenB R l 0=fun _=>false:=by funext k;unfold seenB headsM;rfl
  rw [e,← HM.o];exact HA.o),⟨rfl,rfl,rfl,Nat.le_refl _,fun _ _ _=>rfl⟩⟩
 go_wp2;go_loopw [5,16] (fun v5 v16 wr=>SiRel w1 gS R l v5 v16 wr) (fun _ v16 _=>m - (intOf v16).toNat)
 case atStart=>exact⟨0,[],by omega,rfl,HS0⟩
 obtain⟨i,xs,hi,rfl,HI⟩:=hrel;rename World=>wr;have sg:=HI.o.seen.arr.lt
 by_cases hlt:i<m
 rotate_left
 ·
  obtain rfl:i=m:=by have:=HM.o;omega
  have HF:Hid (GOwn encSd 1 89 wr w.heap.size u5 xs∧(∀ x∈xs,GRow encI 1 wr x.v x.s)∧xs.map (·.s)=sidesM R l∧Be w wr):=Lh ⟨HI.o.out.base HB1.o.size,fun x hx=>(HI.o.rows x hx).row,(by rw [HI.o.bare];unfold sidesM;rw [HM.o]),HB1.o.grown HI.o.world HB1.o.size (fun k hk=>by cases hk;exact hgl)⟩;go_wp2;go_ret;exact⟨_,xs,rfl,HF.o⟩
 have c0:=HI.o.seen.arr.cell (seenV_get (S:=seenB R l i) (n:=l.length) (k:=i) (by rw [← HM.o];exact hlt));rw [seen_head] at c0;cases hh:headB R l i with
 | false =>
  have HH:=Lh hh;have c1:wr.cell? ⟨gS,i,none⟩=some (.int .i64 1):=by rw [c0,hh];rfl
  have HI2:Hid (SiAt wr w1 gS R l (i+1) u5 xs):=Lh ⟨HI.o.out,HI.o.rows,(by rw [HI.o.bare,heads_succ,HH.o];simp),(by rw [seen_next_no HH.o];exact HI.o.seen),HI.o.world⟩;clear c0 hh;go_wp2;go_roundw
  case rel=>exact⟨i+1,xs,by rw [← HM.o];exact hlt,by go_num,HI2⟩
  simp [intOf];omega
 | true =>
  have HH:=Lh hh;have c1:wr.cell? ⟨gS,i,none⟩=some (.int .i64 0):=by rw [c0,hh];rfl
  clear c0 hh;have f1:=HI.o.seen.arr.free i;have ez:(wr.setCell ⟨gS,i,none⟩ (.int .i64 1)).heap.size=wr.heap.size:=by simp
  have HW2:Hid (SdAt ((wr.setCell ⟨gS,i,none⟩ (.int .i64 1)).alloc (.cells #[.int .i64 i] 3)) wr gS R l i 0 0 (.slice (some ⟨wr.heap.size,0,none⟩) [i].length 1) [i]):=Lh ⟨(by
    have h9:=own_lit28s (enc:=encI) (sz:=1) (wr.setCell ⟨gS,i,none⟩ (.int .i64 1)) 3 [i] wr.heap.size rfl (by show 1≤maxLen;unfold maxLen;omega) (by rw [ez];exact Nat.le_refl _);rw [ez] at h9;exact h9),(by
    have h9:=(HI.o.seen.set i (.int .i64 1)).over (bnew (.cells #[.int .i64 i] 3));rw [seenV_set (S':=markB R l i [i]) (fun q=>by have:=mark_snoc (R:=R) (l:=l) (i:=i) (k:=i) (s:=[]) q;rw [List.nil_append] at this;rw [this];unfold markB;simp)] at h9;exact h9),sd_start (by rw [← HM.o];exact hlt),grown_belowS (gsc _ _ _) (bnew _)⟩
  have hil:i<l.length:=by rw [← HM.o];exact hlt
  go_upto_region 9 with fail;generalize (wr.setCell ⟨gS,i,none⟩ (.int .i64 1)).alloc (.cells #[.int .i64 i] 3)=w2 at *;clear c1 sg f1;go_wp2;go_loopw [8,9] (fun v8 v9 wq=>SdRel wr gS R l i v8 v9 wq) (fun _ v9 _=>m - (intOf v9).toNat)
  case atStart=>exact⟨0,1,some ⟨wr.heap.size,0,none⟩,[i],rfl,by simp,rfl,HW2⟩
  obtain⟨at',c,p,s,rfl,hat,rfl,HD⟩:=hrel;rename World=>wq;have hsl:=sd_len HD.o.sd;rw [← HM.o] at hsl
  by_cases hlt2:at'<s.length
  rotate_left
  ·
   obtain rfl:at'=s.length:=(by omega);have hsp:0<s.length:=List.length_pos_of_mem HD.o.sd.self;obtain⟨g8,c8,e8,hA8⟩:=own_at (show World.ownsRow _ _ _ _ _ _ _ from HD.o.own) (by omega);obtain⟨rfl,hcc,rfl⟩:=Value.slice.inj e8;clear hcc e8;have hg8:wr.heap.size≤g8:=gown_low HD.o.own rfl;have HSE:Hid (∀ x,x∈sideM R l i↔x∈s):=Lh fun x=>mem_sideM.trans (sd_end HD.o.sd x).symm;have HSP:Hid ((sideM R l i).Pairwise (· < ·)):=Lh (side_pair R l i);have HA8:=Lh hA8;have hgr:gS<wr.heap.size:=Nat.lt_of_lt_of_le hs1 HI.o.world.size;have hb1r:=HI.o.world.size;clear hA8;go_wp2_with fail;refine(sortI_any HA8.o (by omega) HD.o.sd.nodup HSP.o HSE.o).mono ?_;rintro e w4 ⟨rfl,hA4,hg4⟩;have hsl4:(sideM R l i).length=s.length:=Nat.le_antisymm (nodup_lenN (HSP.o.imp fun h=>Nat.ne_of_lt h) fun x hx=>(HSE.o x).1 hx) (nodup_lenN HD.o.sd.nodup fun x hx=>(HSE.o x).2 hx);have HW4:Hid (wr.grownBy w4 (some gS)):=Lh (grown_far HD.o.world hg8 hg4);have HO4:Hid (GOwn encI 1 3 w4 w1.heap.size (.slice (some ⟨g8,0,none⟩) s.length c) (sideM R l i)):=Lh (by have h9:=hA4.own;unfold GOwn;rw [hsl4];exact own_baseS h9 hb1r);have HSn4:Hid (ArrT w4 gS 3 (seenV (seenB R l (i+1)) l.length)):=Lh (by have h9:=HD.o.seen.kept hg4 (fun q=>by cases q;omega);rw [show markB R l i s=seenB R l (i+1) from funext fun q=>mark_end HH.o HD.o.sd q] at h9;exact h9);have HX4:Hid (GOwn encSd 1 89 w4 w1.heap.size u5 xs):=Lh (own_grown HI.o.out HW4.o (.inr fun q=>by have:=gown_low HI.o.out q;omega));have HR4:Hid (∀ x∈xs,GOwn encI 1 3 w4 w1.heap.size x.v x.s):=Lh fun x hx=>own_grown (HI.o.rows x hx) HW4.o (.inr fun q=>by have:=gown_low (HI.o.rows x hx) q;omega);have hxl:xs.length≤m:=(by have h9:=congrArg List.length HI.o.bare;rw [List.length_map,List.length_map] at h9;have:=heads_few R l i;omega);have hN4:xs.length+1≤1099511627776:=(by omega);have hB4:w1.heap.size≤w4.heap.size:=Nat.le_trans hb1r HW4.o.size;clear hA4 hg4;go_wp2_with (at_builtin;refine apD slSide rfl _ _ rfl w1.heap.size _ _ (drf _) 1 _ _ _ HX4.o rfl rfl rfl rfl hN4 (by decide) hB4 ?_;intro v9 w9 ho9 hg9);go_roundw
   case rel =>
    refine⟨i+1,xs++[⟨sideM R l i,.slice (some ⟨g8,0,none⟩) s.length c⟩],by rw [← HM.o];exact hlt,by go_num,Lh ⟨GOwn.snoc (x:=(⟨sideM R l i,.slice (some ⟨g8,0,none⟩) s.length c⟩:SideL)) ho9,fun x hx => ?_,?_,HSn4.o.grown HX4.o (by decide) hg9,?_⟩⟩
    ·
     rcases List.mem_append.1 hx with hx|hx
     · exact own_byB (HR4.o x hx) HX4.o (by decide) hg9
     rw [List.mem_singleton.1 hx];exact own_byB HO4.o HX4.o (by decide) hg9
    · rw [List.map_append,HI.o.bare,heads_succ,HH.o];simp
    have hw4:w1.grownBy w4 (some gS):=gtr HI.o.world HW4.o;cases hv:u5.ownBlock with
    | none=>rw [hv] at hg9;exact⟨hg9.os.trans hw4.os,hg9.tape.trans hw4.tape,hg9.output.trans hw4.output,Nat.le_trans hw4.size hg9.size,fun q hq hn=>(hg9.block q (Nat.lt_of_lt_of_le hq hw4.size) (by intro e;cases e)).trans (hw4.block q hq hn)⟩
    | some g2=>rw [hv] at hg9;exact grown_far hw4 (gown_low HX4.o hv) hg9
   simp [intOf];omega
  go_wp2;go_loopw [8,37] (fun v8 v37 wp=>SkRel wr gS R l i at' v8 v37 wp) (fun _ v37 _=>m - (intOf v37).toNat)
  case atStart=>exact⟨0,c,p,s,rfl,Nat.zero_le _,hlt2,rfl,HD⟩
  obtain⟨k,c2,p2,s2,rfl,hk,hat2,rfl,HE⟩:=hrel;rename World=>wp;rw [← HM.o] at hk;have hsl2:=sd_len HE.o.sd;rw [← HM.o] at hsl2
  by_cases hlt3:k<m
  rotate_left
  ·
   obtain rfl:k=m:=(by omega);have HE2:Hid (SdAt wp wr gS R l i (at'+1) 0 (.slice p2 s2.length c2) s2):=Lh ⟨HE.o.own,HE.o.seen,sd_next (by have:=HE.o.sd;rwa [HM.o] at this),HE.o.world⟩;go_wp2;go_roundw
   case rel=>exact⟨at'+1,c2,p2,s2,by go_num,hat2,rfl,HE2⟩
   simp [intOf];omega
  obtain⟨u,hu⟩:=gol hat2;have hul:=(HE.o.sd.near u (List.mem_of_getElem? hu)).right;obtain⟨xu,hxu⟩:=gol hul;obtain⟨xk,hxk⟩:=gol (xs:=l) (i:=k) (by rw [← HM.o];exact hlt3);have hgu:l.getD u 0=xu:=by rw [List.getD_eq_getElem?_getD,hxu];rfl
  have hgk:l.getD k 0=xk:=by rw [List.getD_eq_getElem?_getD,hxk];rfl
  have hxul:=HL.o xu (List.mem_of_getElem? hxu);have hxkl:=HL.o xk (List.mem_of_getElem? hxk);have hbw:Be w wp:=HB1.o.grown (gtr HI.o.world HE.o.world) HB1.o.size (fun k hk=>by cases hk;exact hgl);have HRp:=Lh (HR.o.over hbw);obtain⟨sl0,l0⟩:=HC.o u xu hxu wp hbw;have l1:=(HC.o k xk hxk wp hbw).2;obtain⟨p3,c3,e3,z1,z2,hcs⟩:=irow_at HE.o.own.row;cases e3
  unfold maxLen at z2;obtain⟨b2,off2,rfl,sb2,hcs2⟩:=hcs.resolve_left (by omega);obtain⟨_,m0⟩:=hcs2 at' u hu wp (Below.refl _ _);have d0:=HE.o.seen.arr.cell (seenV_get (S:=markB R l i s2) (n:=l.length) (k:=k) (by rw [← HM.o];exact hlt3));have sgp:=HE.o.seen.arr.lt;have hgr:gS<wr.heap.size:=Nat.lt_of_lt_of_le hs1 HI.o.world.size;have HHa:=Lh (rchHas_any r n xu xk R _ (HRp.o.over (Below.refl _ _).drew) hxul);have HHb:=Lh (rchHas_any r n xk xu R _ (HRp.o.over (Below.refl _ _).drew) hxkl);have HU:=Lh hu;have HNu:Hid (nearB R (l.getD u 0) (l.getD k 0)=(leadB R xu xk || leadB R xk xu)):=Lh (by rw [hgu,hgk];exact near_lead R xu xk);have hkl:k<l.length:=by rw [← HM.o];exact hlt3
  have hum:u<m:=by rw [HM.o];exact hul
  clear hu hxu hxk hgu hgk hcs hcs2;cases hmk:markB R l i s2 k with
  | true =>
   have HN:Hid (Sd R l i at' (k+1) s2):=Lh (sd_no HE.o.sd HU.o (by
    cases hnn:nearB R (l.getD u 0) (l.getD k 0) with
    | false=>exact .inl rfl
    | true =>rw [mark_not HH.o HE.o.sd HU.o hkl hnn] at hmk;exact .inr (List.contains_iff_mem.1 hmk)))
   rw [hmk] at d0;have d1:wp.cell? ⟨gS,k,none⟩=some (.int .i64 1):=d0;clear d0 hmk HHa HHb;go_upto_region 15 with fail;refine wlo 35 fun hcur=>?_;(repeat refine lxq ?_);refine lxe ?_;go_wp2;go_roundw
   case rel=>exact⟨k+1,c2,_,s2,by go_num,hkl,hat2,rfl,Lh (SdAt.go (HE.o.over hcur) HN.o)⟩
   simp [intOf];omega
  | false =>
   have hks:k ∉ s2:=(by intro hm;unfold markB at hmk;rw [List.contains_iff_mem.2 hm,Bool.or_true] at hmk;cases hmk);rw [hmk] at d0;have d1:wp.cell? ⟨gS,k,none⟩=some (.int .i64 0):=d0;clear d0 hmk;cases ha:leadB R xu xk with
   | true =>
    rw [ha] at HHa HNu;have HN:Hid (Sd R l i at' (k+1) (s2++[k])):=Lh (sd_yes HE.o.sd HU.o HNu.o hkl hks);clear hks HHb ha;go_upto_region 15 with fail;refine wlo 35 fun hcur=>?_;(repeat(first|refine lxq ?_|(refine lxl rfl ?_;go_wp2_with (first|(go_at_call 193;(with_reducible refine(HHa.o).mono ?_);rintro e w' ⟨rfl,rfl⟩));refine⟨iov hcur,?_⟩)));refine lxe ?_;have HEw:=Lh (HE.o.over hcur);generalize wp.drew=wo at *;have d0:=HEw.o.seen.arr.cell (seenV_get (S:=markB R l i s2) (n:=l.length) (k:=k) hkl);have d2:=HEw.o.seen.arr.free k;have sgo:=HEw.o.seen.arr.lt;have HEm:=Lh (HEw.o.mark hgr (show w1.heap.size≤wr.heap.size from HI.o.world.size) HN.o);clear hcur;go_upto_region 17 with fail;generalize wo.setCell ⟨gS,k,none⟩ (.int .i64 1)=w3 at *;clear d0 d2 sgo;have hN:s2.length+1≤1099511627776:=(by omega);have hB3:=HEm.o.world.size;have HO3:=Lh HEm.o.own;go_wp2_with (at_builtin;refine apD slIntI rfl _ _ rfl wr.heap.size _ _ (drf _) 1 _ _ _ HO3.o rfl rfl rfl rfl hN (by decide) hB3 ?_;intro v9 w9 ho9 hg9);obtain⟨p9,c9,e9,hO9⟩:=iown_more ho9;subst e9;go_roundw
    case rel=>exact⟨k+1,c9,p9,s2++[k],by go_num,hkl,by rw [List.length_append];omega,rfl,Lh (HEm.o.found hO9 hg9 hgr)⟩
    simp [intOf];omega
   | false =>
    cases hb:leadB R xk xu with
    | true =>
     rw [ha] at HHa HNu;rw [hb] at HHb HNu;have HN:Hid (Sd R l i at' (k+1) (s2++[k])):=Lh (sd_yes HE.o.sd HU.o HNu.o hkl hks);clear hks ha hb;go_upto_region 15 with fail;refine wlo 35 fun hcur=>?_;(repeat(first|refine lxq ?_|(refine lxl rfl ?_;go_wp2_with (first|(go_at_call 193;(with_reducible refine(HHa.o).mono ?_);rintro e w' ⟨rfl,rfl⟩)|(go_at_call 193;(with_reducible refine(HHb.o).mono ?_);rintro e w' ⟨rfl,rfl⟩));refine⟨iov hcur,?_⟩)));refine lxe ?_;have HEw:=Lh (HE.o.over hcur);generalize wp.drew=wo at *;have d0:=HEw.o.seen.arr.cell (seenV_get (S:=markB R l i s2) (n:=l.length) (k:=k) hkl);have d2:=HEw.o.seen.arr.free k;have sgo:=HEw.o.seen.arr.lt;have HEm:=Lh (HEw.o.mark hgr (show w1.heap.size≤wr.heap.size from HI.o.world.size) HN.o);clear hcur;go_upto_region 17 with fail;generalize wo.setCell ⟨gS,k,none⟩ (.int .i64 1)=w3 at *;clear d0 d2 sgo;have hN:s2.length+1≤1099511627776:=(by omega);have hB3:=HEm.o.world.size;have HO3:=Lh HEm.o.own;go_wp2_with (at_builtin;refine apD slIntI rfl _ _ rfl wr.heap.size _ _ (drf _) 1 _ _ _ HO3.o rfl rfl rfl rfl hN (by decide) hB3 ?_;intro v9 w9 ho9 hg9);obtain⟨p9,c9,e9,hO9⟩:=iown_more ho9;subst e9;go_roundw
     case rel=>exact⟨k+1,c9,p9,s2++[k],by go_num,hkl,by rw [List.length_append];omega,rfl,Lh (HEm.o.found hO9 hg9 hgr)⟩
     simp [intOf];omega
    | false =>
     rw [ha] at HHa HNu;rw [hb] at HHb HNu;have HN:Hid (Sd R l i at' (k+1) s2):=Lh (sd_no HE.o.sd HU.o (.inl HNu.o));clear hks ha hb;go_upto_region 15 with fail;refine wlo 35 fun hcur=>?_;(repeat(first|refine lxq ?_|(refine lxl rfl ?_;go_wp2_with (first|(go_at_call 193;(with_reducible refine(HHa.o).mono ?_);rintro e w' ⟨rfl,rfl⟩)|(go_at_call 193;(with_reducible refine(HHb.o).mono ?_);rintro e w' ⟨rfl,rfl⟩));refine⟨iov hcur,?_⟩)));refine lxe ?_;go_wp2;go_roundw
     case rel=>exact⟨k+1,c2,_,s2,by go_num,hkl,hat2,rfl,Lh (SdAt.go (HE.o.over hcur) HN.o)⟩
     simp [intOf];omega
end
section
variable{xs:List BlL}{lo:Nat}{v:Value}{w:World}
def Fit(lo:Nat)(w:World)(g:Option Nat)(b:Nat):Prop:=lo≤b∧b<w.heap.size∧some b≠g
structure BX (w:World) (lo:Nat) (v:Value) (xs:List BlL):Prop where
 own:GOwn encBl 3 183 w lo v xs
 ins:BIns (Fit lo w v.ownBlock) w xs
theorem bx_nil(w:World)(lo:Nat):BX w lo (.slice none 0 0) []:=⟨gown_nil _ _,bins_nil⟩
theorem BX.over{w':World}(h:BX w lo v xs)(hb:Be w w'):BX w' lo v xs:=
 ⟨h.own.over hb,BIns.mono (fun b hb'=>⟨hb'.1,Nat.lt_of_lt_of_le hb'.2.1 hb.size,hb'.2.2⟩) (fun _ _ _ h=>h.over hb) xs h.ins⟩
theorem grow_keptB{w':World}{g:Option Nat}(hg:w.grownBy w' g)(hb:∀ b,v.ownBlock=some b→some b≠g)(h:GRow encBl 3 w v xs):GRow encBl 3 w' v xs:=by obtain⟨h0,a,cap,rfl,h1,h2,h3,h4⟩:=h;refine⟨h0,a,cap,rfl,h1,h2,h3,fun hp => ?_⟩;obtain⟨b,off,rfl,hb2,hc⟩:=h4 hp;have hne:some b≠g:=hb b rfl;refine⟨b,off,rfl,Nat.lt_of_lt_of_le hb2 hg.size,fun j u hu => ?_⟩;rw [World.cell?_of_block (w:=w) (w':=w') (a:=⟨b,off+j,none⟩) (hg.block b hb2 hne)];exact hc j u hu
theorem BX.snoc{w9:World}{lo0:Nat}{v9:Value}{x:BlL}(h:BX w lo v xs)(hx:BIn (fun b=>lo0≤b∧b<w.heap.size∧some b≠v.ownBlock) w x)(hlo:lo≤lo0)
  (ho:GOwn encBl 3 183 w9 lo v9 (xs++[x])) (hg:w.grownBy w9 v.ownBlock) (hk:v9.ownBlock=v.ownBlock∨∃ k,v9.ownBlock=some k∧w.heap.size≤k):BX w9 lo v9 (xs++[x]):=by
 have hne:∀ b,b<w.heap.size→some b≠v.ownBlock→some b≠v9.ownBlock:=by
  intro b hb hn e;rcases hk with h1|⟨k,h1,h2⟩
  · exact hn (e.trans h1)
  rw [h1] at e;cases e;omega
 refine⟨ho,bins_append ?_ (bins_one ?_)⟩
 · exact BIns.mono (fun b hb=>⟨hb.1,Nat.lt_of_lt_of_le hb.2.1 hg.size,hne b hb.2.1 hb.2.2⟩) (fun u us hu hr=>grow_keptB hg (fun b hb=>(hu b hb).2.2) hr) xs h.ins
 exact BIn.mono (fun b hb=>⟨by have:=hb.1;omega,Nat.lt_of_lt_of_le hb.2.1 hg.size,hne b hb.2.1 hb.2.2⟩) (fun u us hu hr=>grow_keptB hg (fun b hb=>(hu b hb).2.2) hr) x hx
theorem fit_own(h:BX w lo v xs){b:Nat}(hb:v.ownBlock=some b):lo≤b∧b<w.heap.size:=⟨gown_low h.own hb,gown_size h.own hb⟩
theorem BX.block(h:BX w lo v xs)(k n:Int):BIn (fun b=>lo≤b∧b<w.heap.size) w (.mk k n v xs):=by refine bin_mk.2 ⟨h.own.row,?_,fun b hb=>fit_own h hb,BIns.mono (fun b hb=>⟨hb.1,hb.2.1⟩) (fun _ _ _ h=>h) xs h.ins⟩;rcases h.own.2 with⟨rfl,_⟩|⟨g,cap,cur,rfl,_⟩ <;> rfl
theorem BIn.weak{A A':Nat→Prop}{x:BlL}(h:BIn A w x)(hA:∀ b,A b→A' b):BIn A' w x:=BIn.mono hA (fun _ _ _ h=>h) x h
def PcRes(w:World)(m:BlkM)(e:Ending)(w':World):Prop:=∃(k n:Int) (sv:Value) (s:List BlL),e=.returned (.agg #[.int .i64 k,.int .i64 n,sv])∧bareB (.mk k n sv s)=m∧BIn (fun b=>w.heap.size≤b∧b<w'.heap.size) w' (.mk k n sv s)∧Be w w'
def OfRes(w:World)(ms:List BlkM)(e:Ending)(w':World):Prop:=∃ v xs,e=.returned v∧BX w' w.heap.size v xs∧bareL xs=ms∧Be w w'
end
section
variable{R:List (Nat × Nat)}{l s:List Nat}
theorem rowBlk:RowT Tryz.prog 183 3:=rowT_of Tryz.underlying183 rfl (by kernel_rfl)
theorem things_nil(l:List Nat):thingsM l []=[]:=rfl
attribute [local irreducible] sidesM pieceM blkM thingsM
theorem piece_one(R:List (Nat × Nat))(F:List Nat→List BlkM)(i:Nat):pieceM R F [i]=lineB i:=by unfold pieceM;rw [if_pos (show [i].length=1 from rfl)];rfl
theorem piece_knot{F:List Nat→List BlkM}(h1:l.length≠1)(h2:(sidesM R l).length=1):pieceM R F l=.mk 3 0 (l.map lineB):=by unfold pieceM;rw [if_neg h1,if_pos h2]
theorem piece_fork{F:List Nat→List BlkM}(h1:l.length≠1)(h2:(sidesM R l).length≠1):pieceM R F l=.mk 2 0 ((sidesM R l).map fun s=>.mk 4 0 (F (thingsM l s))):=by unfold pieceM;rw [if_neg h1,if_neg h2]
theorem bpiece_one(r:Nat)(R:List (Nat × Nat))(F:List Nat→List BlkM)(v:Value)(i:Nat)(w:World)(hv:GRow encI 1 w v [i]) :
  Calls Tryz.prog 106 #[.pointer (some ⟨r,0,none⟩),v] w (PcRes w (pieceM R F [i])):=by obtain⟨a,cap,rfl,h1,h2,hc⟩:=irow_at hv;unfold maxLen at h2;obtain⟨b,off,rfl,sb,hcb⟩:=hc.resolve_left (by simp);have HA:=Lh (anw w #[.int .i64 0,.int .i64 0,.slice none 0 0] 183);have HB:=Lh (bnew (w:=w) (.cells #[.int .i64 0,.int .i64 0,.slice none 0 0] 183));obtain⟨sl,x0'⟩:=hcb 0 i rfl (w.alloc (.cells #[.int .i64 0,.int .i64 0,.slice none 0 0] 183)) (bnew _);have x0:(w.alloc (.cells #[.int .i64 0,.int .i64 0,.slice none 0 0] 183)).cell? ⟨b,off,none⟩=some (.int .i64 i):=x0';clear x0';have hP:=piece_one R F i;clear hv hcb hc;go_enter Tryz.func106,Tryz.ntmps106;go_upto_region 1 with fail;generalize w.alloc (.cells #[.int .i64 0,.int .i64 0,.slice none 0 0] 183)=w0 at *;obtain⟨z0,z1,z2,sz⟩:=HA.o.c3;have f0:=HA.o.free 0;have f1:=HA.o.free 1;have f2:=HA.o.free 2;have HPc:=Lh hP;clear hP;go_wp2_with fail;refine bodyPost_ret (v:=.agg #[.int .i64 1,.int .i64 i,.slice none 0 0]) (results_arr rowBlk rfl (((HA.o.set 0 _).set 1 _).set 2 _) rfl rfl) rfl ?_;exact⟨1,i,.slice none 0 0,[],rfl,(lineL_bare i).trans HPc.o.symm,lineL_in _ _ i,(((HB.o.setCell (p:=⟨w.heap.size,0,none⟩) (Nat.le_refl _) (.int .i64 1)).setCell (p:=⟨w.heap.size,1,none⟩) (Nat.le_refl _) (.int .i64 i)).setCell (p:=⟨w.heap.size,2,none⟩) (Nat.le_refl _) (.slice none 0 0))⟩
theorem sides_lt(hs:s∈sidesM R l){k:Nat}(hk:k∈s):k<l.length:=by unfold sidesM at hs;obtain⟨i,_,rfl⟩:=List.mem_map.1 hs;exact(mem_sideM.1 hk).right
theorem things_step{q u y:Nat}(hu:s[q]? = some u)(hy:l[u]? = some y):thingsM l (s.take (q+1))=thingsM l (s.take q)++[y]:=by unfold thingsM;rw [take_one hu,List.map_append,List.map_cons,List.map_nil,List.getD_eq_getElem?_getD,hy];rfl
theorem sides_few(R:List (Nat × Nat))(l:List Nat):(sidesM R l).length≤l.length:=by unfold sidesM;rw [List.length_map];exact heads_few R l l.length
theorem things_le(hl:∀ i∈l,i≤1000000)(hs:s∈sidesM R l):∀ i∈thingsM l s,i≤1000000:=by intro i hi;unfold thingsM at hi;obtain⟨k,hk,rfl⟩:=List.mem_map.1 hi;have:=sides_lt hs hk;rw [List.getD_eq_getElem?_getD,List.getElem?_eq_getElem this];exact hl _ (List.getElem_mem _)
theorem bare_len{ys:List BlL}{ss:List (List Nat)}{F:List Nat→BlkM}{j:Nat}(h:bareL ys=(ss.take j).map F):ys.length≤j:=by have:=congrArg List.length h;rw [bareL_map,List.length_map,List.length_map,List.length_take] at this;omega
structure FkAt (wr w2:World) (gb:Nat) (R:List (Nat × Nat)) (l:List Nat) (f:Nat) (xs:List SideL) (j:Nat) (p:Option Addr) (c:Nat) (ys:List BlL):Prop where
 box:ArrT wr gb 183 [.int .i64 2,.int .i64 0,.slice p ys.length c]
 sub:BX wr w2.heap.size (.slice p ys.length c) ys
 bare:bareL ys=((sidesM R l).take j).map fun s=>.mk 4 0 (blkM R f (thingsM l s))
 world:w2.grownBy wr (some gb)
def FkRel(w2:World)(gb:Nat)(R:List (Nat × Nat))(l:List Nat)(f:Nat)(xs:List SideL)(v31:Value)(wr:World):Prop:=∃(j:Nat) (p:Option Addr) (c:Nat) (ys:List BlL),j≤xs.length∧v31=.int .i64 j∧Hid (FkAt wr w2 gb R l f xs j p c ys)
def ThRel(wr:World)(l s:List Nat)(v9 v37:Value)(wq:World):Prop:=∃(q:Nat) (p:Option Addr) (c:Nat),q≤s.length∧v37=.int .i64 q∧v9=.slice p (thingsM l (s.take q)).length c∧Hid (GOwn encI 1 3 wq wr.heap.size (.slice p (thingsM l (s.take q)).length c) (thingsM l (s.take q)))∧Be wr wq
theorem bareL_snoc(ys:List BlL)(x:BlL):bareL (ys++[x])=bareL ys++[bareB x]:=by rw [bareL_map,bareL_map,List.map_append];rfl
theorem BX.set{w:World}{lo gb k:Nat}{v u:Value}{xs:List BlL}(h:BX w lo v xs)(hg:gb<lo):BX (w.setCell ⟨gb,k,none⟩ u) lo v xs:=by refine⟨own_set h.own (fun q=>by have:=gown_low h.own q;omega) _ _,?_⟩;exact BIns.mono (fun b hb=>⟨hb.1,by have:=hb.2.1;simpa using this,hb.2.2⟩) (fun us ys hu hr=>grow_keptB (gsc (g:=gb) w k u) (fun b hb e=>by cases e;have:=(hu _ hb).1;omega) hr) xs h.ins
theorem FkAt.step{wr wq w2 w5 w6:World}{gb:Nat}{f j:Nat}{xs:List SideL}{p p6:Option Addr}{c c6:Nat}{ys ys5:List BlL}{sv5:Value}
  (h:FkAt wr w2 gb R l f xs j p c ys) (hq:Be wr wq) (h5:Be wq w5) (hx:BX w5 wq.heap.size sv5 ys5) (hb5:bareL ys5=blkM R f (thingsM l s)) (hs:(sidesM R l)[j]? = some s) (hgb:gb<w2.heap.size) (hwr:w2.heap.size≤wr.heap.size)
  (ho:w6.ownsRow w2.heap.size 183 3 (.slice p6 (ys.length+1) c6) (ys.length+1) (ys.flatMap encBl++[.int .i64 4,.int .i64 0,sv5])) (hg:w5.grownBy w6 (Value.slice p ys.length c).ownBlock)
  (hv:(Value.slice p6 (ys.length+1) c6).ownBlock=(Value.slice p ys.length c).ownBlock∨∃ k,(Value.slice p6 (ys.length+1) c6).ownBlock=some k∧w5.heap.size≤k) :
  FkAt (w6.setCell ⟨gb,2,none⟩ (.slice p6 (ys.length+1) c6)) w2 gb R l f xs (j+1) p6 c6 (ys++[.mk 4 0 sv5 ys5]):=by
 have hsub:=(h.sub.over hq).over h5;have hlen:(ys++[BlL.mk 4 0 sv5 ys5]).length=ys.length+1:=by simp
 have hxin:BIn (fun b=>wq.heap.size≤b∧b<w5.heap.size∧some b≠(Value.slice p ys.length c).ownBlock) w5 (.mk 4 0 sv5 ys5):=
  BIn.weak (hx.block 4 0) fun b hb=>⟨hb.1,hb.2,fun e=>by
   have:=gown_size h.sub.own e.symm
   have:=hq.size
   omega⟩
 have hown:GOwn encBl 3 183 w6 w2.heap.size (.slice p6 (ys.length+1) c6) (ys++[.mk 4 0 sv5 ys5]):=GOwn.snoc (x:=BlL.mk 4 0 sv5 ys5) ho;have hnew:=BX.snoc hsub hxin (by have:=hq.size;omega) hown hg hv;have hbox:=((h.box.over hq).over h5).kept hg (fun e=>by have:=gown_low h.sub.own e.symm;omega);refine⟨?_,?_,?_,?_⟩
 · rw [hlen];exact hbox.set 2 _
 · rw [hlen];exact hnew.set hgb
 · rw [bareL_snoc,h.bare,take_one hs,List.map_append,List.map_cons,List.map_nil];congr 1;unfold bareB;rw [hb5]
 have hw:w2.grownBy w5 (some gb):=grown_belowS (grown_belowS h.world hq) h5;refine gtr ?_ (gsc _ _ _);cases hv2:(Value.slice p ys.length c).ownBlock with
 | none=>rw [hv2] at hg;exact⟨hg.os.trans hw.os,hg.tape.trans hw.tape,hg.output.trans hw.output,Nat.le_trans hw.size hg.size,fun q hq hn=>(hg.block q (Nat.lt_of_lt_of_le hq hw.size) (by intro e;cases e)).trans (hw.block q hq hn)⟩
 | some g2=>rw [hv2] at hg;exact grown_far hw (gown_low h.sub.own hv2) hg
theorem pc_store{w w2 w3:World}{x:BlL}{lo gz:Nat}(h:BIn (fun b=>lo≤b∧b<w2.heap.size) w2 x)(hg:w2.grownBy w3 (some gz))(hz:gz<lo)(hw:w.heap.size≤lo):BIn (fun b=>w.heap.size≤b∧b<w3.heap.size) w3 x:=
 BIn.mono (fun b hb=>⟨Nat.le_trans hw hb.1,Nat.lt_of_lt_of_le hb.2 hg.size⟩) (fun u us hu hr=>grow_keptB hg (fun b hb e=>by cases e;have:=(hu _ hb).1;omega) hr) x h
theorem bpiece_any(f r n:Nat)(R:List (Nat × Nat))(v:Value)(l:List Nat)(w:World)(h:RelAt w r n R)(hv:GRow encI 1 w v l)(hl:∀ i∈l,i≤1000000)(hn:l.length≤1000000)(h0:0<l.length)(hf:l.length≤f)
  (hOf:∀(t:List Nat) (tv:Value) (W:World),t.length<f→t.length≤1000000→(∀ i∈t,i≤1000000)→RelAt W r n R→GRow encI 1 W tv t→Calls Tryz.prog 53 #[.pointer (some ⟨r,0,none⟩),tv] W (OfRes W (blkM R f t))) :
  Calls Tryz.prog 106 #[.pointer (some ⟨r,0,none⟩),v] w (PcRes w (pieceM R (blkM R f) l)):=by
 by_cases hl1:l.length=1
 · obtain⟨i,rfl⟩:=List.length_eq_one_iff.1 hl1;exact bpiece_one r R _ v i w hv
 obtain⟨a,cap,rfl,h1,h2,hc⟩:=irow_at hv;have hV:=Lh hv;unfold maxLen at h2;have HC:=Lh hc;have HR:=Lh h;have HL:=Lh hl;have HOf:=Lh hOf;have HA:=Lh (anw w #[.int .i64 0,.int .i64 0,.slice none 0 0] 183);have HB:=Lh (bnew (w:=w) (.cells #[.int .i64 0,.int .i64 0,.slice none 0 0] 183));have g1:((l.length:Int) == 1)=false:=by rw [beq_eq_false_iff_ne];omega
 have H1:=Lh hl1;clear hv h hl hOf hc hl1;go_enter Tryz.func106,Tryz.ntmps106;go_upto_region 1 with fail;generalize hw0:w.alloc (.cells #[.int .i64 0,.int .i64 0,.slice none 0 0] 183)=w0 at *;have hwz:=hw0;clear hw0;try unfold Be at *
 generalize hgz:w.heap.size=gz at *;have HGZ:=Lh hgz;have hgz0:w0.heap.size=gz+1:=by rw [← hwz];simp [hgz]
 clear hwz;go_wp2_with fail;refine(bsides_any r n R _ l _ (HR.o.over (by unfold Be;rw [hgz];exact HB.o)) (hV.out.over (by unfold Be;rw [hgz];exact HB.o)) HL.o hn h0).mono ?_;rintro e w1 ⟨sv,xs,rfl,ho,hrw,hbare,hb1⟩;rw [hgz0] at ho;obtain⟨pa,ca,e1,n1,n2,hcx⟩:=ho.row.at encSd_len;subst e1;unfold maxLen at n2;have HX:=Lh ho;have HCX:=Lh hcx;have HRW:=Lh hrw;have HBR:=Lh hbare;have HB1:=Lh (bov HB.o (by rw [hgz0];omega) hb1);have HA1:=Lh (HA.o.over hb1);have hxl:xs.length=(sidesM R l).length:=by have:=congrArg List.length hbare;rwa [List.length_map] at this
 have hz1:gz<w1.heap.size:=HA1.o.lt;clear ho hrw hbare hb1 hcx;obtain⟨y0,y1,y2,sy⟩:=HA1.o.c3;have k0:=HA1.o.free 0;have k1:=HA1.o.free 1;have k2:=HA1.o.free 2
 by_cases hs1:xs.length=1
 ·
  have g2:((xs.length:Int) == 1)=true:=by rw [beq_iff_eq];omega
  have HPk:=Lh (piece_knot (F:=blkM R f) H1.o (hxl▸hs1));have HBw1:Hid (Be w w1):=Lh (by unfold Be;rw [HGZ.o];exact HB1.o);clear hs1 hxl;go_wp2_with fail;refine(bsome_any _ l _ (hV.out.over HBw1.o) hn).mono ?_;rintro e w2 ⟨v2,rfl,ho2,hb2⟩;obtain⟨p2,c2,e2,_,_,_⟩:=ho2.row.at encBl_len;rw [List.length_map] at e2;subst e2;have HO2:=Lh ho2;have HB2:=Lh (bov HB1.o (by omega) hb2);have HA2:=Lh (HA1.o.over hb2);have hz2:=hb2.size;clear ho2 hb2 y0 y1 y2 sy k0 k1 k2;obtain⟨y0,y1,y2,sy⟩:=HA2.o.c3;have k0:=HA2.o.free 0;have k1:=HA2.o.free 1;have k2:=HA2.o.free 2;go_wp2_with fail;refine bodyPost_ret (v:=.agg #[.int .i64 3,.int .i64 0,.slice p2 l.length c2]) (results_arr rowBlk rfl (((HA2.o.set 0 _).set 1 _).set 2 _) rfl rfl) rfl ?_;refine⟨3,0,.slice p2 l.length c2,l.map lineL,rfl,?_,?_,?_⟩
  · rw [HPk.o];unfold bareB;rw [lines_bare]
  · have h9:BX w2 w1.heap.size (.slice p2 l.length c2) (l.map lineL):=⟨HO2.o,lines_in _ _ _⟩;exact pc_store (gz:=gz) (h9.block 3 0) (gtr (gtr (gsc w2 0 _) (gsc _ 1 _)) (gsc _ 2 _)) hz1 (by rw [HGZ.o];omega)
  unfold Be;rw [HGZ.o];exact(((HB2.o.setCell (p:=⟨gz,0,none⟩) (Nat.le_refl _) (.int .i64 3)).setCell (p:=⟨gz,1,none⟩) (Nat.le_refl _) (.int .i64 0)).setCell (p:=⟨gz,2,none⟩) (Nat.le_refl _) (.slice p2 l.length c2))
 have g2:((xs.length:Int) == 1)=false:=by rw [beq_eq_false_iff_ne];omega
 have HPf:=Lh (piece_fork (F:=blkM R f) H1.o (hxl▸hs1));have HNs:Hid ((sidesM R l).length≠1):=Lh (hxl▸hs1);have HXL:=Lh hxl;clear hs1 hxl;go_upto_region 7 with fail;have HBx:=Lh (arrT_new w1 [.int .i64 2,.int .i64 0,.slice none 0 0] 183);have HN1:=Lh (bnew (w:=w1) (.cells #[.int .i64 2,.int .i64 0,.slice none 0 0] 183));have HA2:=Lh (HA1.o.over HN1.o);have HS2:Hid (w1.heap.size+1=(w1.alloc (.cells #[.int .i64 2,.int .i64 0,.slice none 0 0] 183)).heap.size):=Lh (by simp);generalize w1.alloc (.cells #[.int .i64 2,.int .i64 0,.slice none 0 0] 183)=w2 at *;clear y0 y1 y2 sy k0 k1 k2;obtain⟨gb,hgb⟩:∃ gb,gb=w1.heap.size:=⟨_,rfl⟩;unfold Be at HN1;rw [← hgb] at HBx HS2 HN1 hz1 ⊢;have HGB:=Lh hgb;clear hgb;have HF0:Hid (FkAt w2 w2 gb R l f xs 0 none 0 []):=Lh ⟨HBx.o,bx_nil _ _,by rw [List.take_zero];rfl,World.grownBy.refl _ _⟩;go_wp2;go_loopw [8,9,11,31] (fun _ _ _ v31 wr=>FkRel w2 gb R l f xs v31 wr) (fun _ _ _ v31 _=>xs.length - (intOf v31).toNat)
 case atStart=>exact⟨0,none,0,[],Nat.zero_le _,rfl,HF0⟩
 obtain⟨j,p,c,ys,hj,rfl,HF⟩:=hrel;rename World=>wr;have HBr:Hid (Be w1 wr):=Lh (by have h9:=HN1.o;rw [HGB.o] at h9;exact h9.grown HF.o.world h9.size (fun k hk=>by cases hk;rw [HGB.o];exact Nat.le_refl _));have HBz:Hid (Below gz w wr):=Lh (bov HB1.o (by have:=HGB.o;omega) HBr.o)
 by_cases hlt:j<xs.length
 rotate_left
 ·
  obtain rfl:j=xs.length:=by omega
  have HAr:=Lh (HA1.o.over HBr.o);have HBA:=Lh HF.o.box.arr;have hzl:gz<w2.heap.size:=by have:=HS2.o;have:=HGB.o;omega
  have hzw:w.heap.size≤w2.heap.size:=by have:=HGZ.o;omega
  have HPe:Hid (pieceM R (blkM R f) l=.mk 2 0 (bareL ys)):=Lh (by rw [HPf.o,HF.o.bare,HXL.o,List.take_length]);obtain⟨y0,y1,y2,sy⟩:=HAr.o.c3;obtain⟨b0,b1,b2,sb⟩:=HBA.o.c3;have k0:=HAr.o.free 0;have k1:=HAr.o.free 1;have k2:=HAr.o.free 2;go_wp2_with fail;refine bodyPost_ret (v:=.agg #[.int .i64 2,.int .i64 0,.slice p ys.length c]) (results_arr rowBlk rfl (((HAr.o.set 0 _).set 1 _).set 2 _) rfl rfl) rfl ?_;refine⟨2,0,.slice p ys.length c,ys,rfl,?_,?_,?_⟩
  · rw [HPe.o];unfold bareB;rfl
  · exact pc_store (gz:=gz) (HF.o.sub.block 2 0) (gtr (gtr (gsc wr 0 _) (gsc _ 1 _)) (gsc _ 2 _)) hzl hzw
  unfold Be;rw [HGZ.o];exact(((HBz.o.setCell (p:=⟨gz,0,none⟩) (Nat.le_refl _) (.int .i64 2)).setCell (p:=⟨gz,1,none⟩) (Nat.le_refl _) (.int .i64 0)).setCell (p:=⟨gz,2,none⟩) (Nat.le_refl _) (.slice p ys.length c))
 obtain⟨x,hx⟩:=gol hlt;obtain⟨bx,ox,rfl,sbx,hcx⟩:=HCX.o.resolve_left (by omega);have x0':=(hcx j x hx wr HBr.o).2 0 _ rfl;have x0:wr.cell? ⟨bx,ox+j,none⟩=some x.v:=by simpa using x0'
 have sx:=(hcx j x hx wr HBr.o).1;have hxm:=List.mem_of_getElem? hx;have hxr:=(HRW.o x hxm).over HBr.o;obtain⟨q1,q2,ev,n3,n4,hcs⟩:=irow_at hxr;unfold maxLen at n4;have hsm:x.s∈sidesM R l:=by rw [← HBR.o];exact List.mem_map.2 ⟨x,hxm,rfl⟩
 have HSm:=Lh hsm;have HSl:=Lh (sides_less HNs.o hsm);have HX1:=Lh hx;have HCS:=Lh hcs;rw [ev] at x0;clear x0' hcx hx hxm hxr hsm hcs ev;go_wp2;go_loopw [9,11,37] (fun v9 _ v37 wq=>ThRel wr l x.s v9 v37 wq) (fun _ _ v37 _=>x.s.length - (intOf v37).toNat)
 case atStart=>exact⟨0,none,0,Nat.zero_le _,rfl,by rw [List.take_zero,things_nil];rfl,Lh (by rw [List.take_zero,things_nil];exact gown_nil _ _),Below.refl _ _⟩
 obtain⟨q,p9,c9,hq,rfl,rfl,HT,hbq⟩:=hrel;rename World=>wq;have HBq:=Lh hbq
 by_cases hlt2:q<x.s.length
 ·
  obtain⟨u,hu⟩:=gol hlt2;obtain⟨bs,os,rfl,sbs,hcs2⟩:=HCS.o.resolve_left (by omega);obtain⟨su,u0⟩:=hcs2 q u hu wq hbq;have hul:=sides_lt HSm.o (List.mem_of_getElem? hu);obtain⟨y,hy⟩:=gol hul;obtain⟨bl,ol,rfl,sbl,hcl⟩:=HC.o.resolve_left (by omega);have hbw:Below gz w wq:=by exact bov HBz.o (by have:=HBr.o.size;have:=HGB.o;omega) hbq
  obtain⟨sy2,l0⟩:=hcl u y hy wq hbw;have HTs:=Lh (things_step hu hy);have hN:(thingsM l (x.s.take q)).length+1≤1099511627776:=by have:=HSl.o;unfold thingsM;rw [List.length_map,List.length_take];omega
  have hB3:=hbq.size;clear hcs2 hu hy hcl hbw;go_wp2_with (at_builtin;refine apD slIntI rfl _ _ rfl wr.heap.size _ _ (drf _) 1 _ _ _ HT.o rfl rfl rfl rfl hN (by decide) hB3 ?_;intro v9 w9 ho9 hg9);obtain⟨p8,c8,e8,hO8⟩:=iown_more ho9;subst e8;go_roundw
  case rel=>exact⟨q+1,p8,c8,hlt2,by go_num,by rw [HTs.o],Lh (by rw [HTs.o];exact hO8),bgr HBq.o hB3 HT.o hg9⟩
  simp [intOf];omega
 obtain rfl:q=x.s.length:=by omega
 rw [List.take_length] at HT;rw [List.take_length];have HBxq:=Lh (HF.o.box.over hbq);have HSq:=Lh (HF.o.sub.over hbq);have HBxa:=Lh HBxq.o.arr;have hbw:Below gz w wq:=by exact bov HBz.o (by have:=HBr.o.size;have:=HGB.o;omega) hbq
 have HOc:Hid (∀ W,Be wq W→Calls Tryz.prog 53 #[.pointer (some ⟨r,0,none⟩),.slice p9 (thingsM l x.s).length c9] W (OfRes W (blkM R f (thingsM l x.s)))):=Lh fun W hW=>HOf.o _ _ W (by unfold thingsM;rw [List.length_map];have:=HSl.o;omega) (by unfold thingsM;rw [List.length_map];have:=HSl.o;omega) (things_le HL.o HSm.o) ((HR.o.over (by unfold Be;rw [HGZ.o];exact hbw)).over hW) (HT.o.over hW).row;have hxj:(sidesM R l)[j]? = some x.s:=by rw [← HBR.o,List.getElem?_map,HX1.o];rfl
 have HXj:=Lh hxj;have hzl:gb<w2.heap.size:=by have:=HS2.o;omega
 have hwl:=HF.o.world.size;have hN6:ys.length+1≤1099511627776:=by have:=bare_len HF.o.bare;have:=sides_few R l;have:=HXL.o;omega
 have HN6:=Lh hN6;clear hxj hbw hN6;obtain⟨b0,b1,b2,sb⟩:=HBxa.o.c3;go_upto_region 16 with fail;refine wlo 7 fun hcur=>?_;repeat(first|refine lxq ?_|(refine lxl rfl ?_;go_wp2_with (first|(go_at_call 53;(with_reducible refine(HOc.o _ hcur).mono ?_);rintro e w5 ⟨v5,ys5,rfl,hx5,hr5,hb5⟩;(obtain⟨p5,c5,e5,_,_,_⟩:=hx5.own.row.at encBl_len);subst e5;have HX5:Hid (BX w5 wq.heap.size (.slice p5 ys5.length c5) ys5):=Lh hx5;have HR5:=Lh hr5;replace hcur:=bvo hcur hb5;clear hx5 hr5 hb5));refine⟨iov (by first|exact hcur|exact hcur.alloc hcur.size _),?_⟩))
 refine lxe ?_;have HB5:=Lh hcur;have HO5:=Lh ((HSq.o.over hcur).own);have hB6:w2.heap.size≤w5.heap.size:=by have:=hcur.size;have:=HBq.o.size;omega
 clear hcur;go_wp2_with (at_builtin;(first|refine wpList_append_newK slBlk rfl _ _ rfl w2.heap.size #[.int .i64 4,.int .i64 0,.slice p5 ys5.length c5] 183 (drf _) 1 _ _ _ HO5.o rfl rfl rfl rfl HN6.o (by decide) hB6 ?_|refine wpList_append_newK slBlk rfl _ _ rfl w2.heap.size #[.int .i64 4,.int .i64 0,.slice p5 ys5.length c5] 183 (ddw _) 1 _ _ _ HO5.o rfl rfl rfl rfl HN6.o (by decide) hB6 ?_);intro v6 w6 ho6 hg6 hv6;(obtain⟨p6,c6,e6,_,_,_⟩:=(GOwn.row (GOwn.snoc (x:=BlL.mk 4 0 (.slice p5 ys5.length c5) ys5) ho6)).at encBl_len);(have e7:v6=.slice p6 (ys.length+1) c6:=by rw [e6,List.length_append];rfl);clear e6;subst e7;have HST:=Lh (HF.o.step HBq.o HB5.o HX5.o HR5.o HXj.o hzl hwl ho6 hg6 hv6);have HB6:=Lh ((HBxq.o.over HB5.o).kept hg6 (fun e=>by have:=gown_low HSq.o.own e.symm;omega));have t2:=HB6.o.arr.k 2 rfl;have t3:=HB6.o.arr.free 2;have st:=HB6.o.arr.lt;clear ho6 hg6 hv6);go_roundw
 case rel=>exact⟨j+1,p6,c6,_,hlt,by go_num,HST⟩
 simp [intOf];omega
end
variable{l:List Nat}{k:Nat}
def BoRel(w:World)(R:List (Nat × Nat))(f:Nat)(l:List Nat)(v5 v6 v10:Value)(wr:World):Prop:=∃(i at':Nat) (xs:List BlL),i≤l.length∧v10=.int .i64 i∧v6=.int .i64 at'∧Hid (BX wr w.heap.size v5 xs)∧Hid (bareL xs=(piecesTo R l i).1.map (pieceM R (blkM R f)))∧at'=(piecesTo R l i).2∧Be w wr
theorem pieces_zero(R:List (Nat × Nat))(l:List Nat):piecesTo R l 0=([],0):=rfl
theorem pieces_yes{R:List (Nat × Nat)}(h:k+1=l.length∨cutB R l (k+1)=true):piecesTo R l (k+1)=((piecesTo R l k).1++[(l.take (k+1)).drop (piecesTo R l k).2],k+1):=by rw [piecesTo];exact if_pos h
theorem pieces_no{R:List (Nat × Nat)}(h:¬ (k+1=l.length∨cutB R l (k+1)=true)):piecesTo R l (k+1)=piecesTo R l k:=by rw [piecesTo];exact if_neg h
theorem pieces_few(R:List (Nat × Nat))(l:List Nat):∀ k,(piecesTo R l k).1.length≤k
 | 0=>Nat.le_refl _
 | k+1=>by
  have:=pieces_few R l k
  by_cases h:k+1=l.length∨cutB R l (k+1)=true
  · rw [pieces_yes h];simp;omega
  rw [pieces_no h];omega
theorem of_snoc{w w3 w6 wr:World}{v v6:Value}{xs ys3:List BlL}{k3 n3:Int}{s3:Value}{lo:Nat}(h:BX w3 w.heap.size v xs)(hx:BIn (fun b=>lo≤b∧b<w3.heap.size) w3 (.mk k3 n3 s3 ys3))(hlo:wr.heap.size≤lo)(hw:w.heap.size≤wr.heap.size)(hv:∀ b,v.ownBlock=some b→b<wr.heap.size)
  (ho:w6.ownsRow w.heap.size 183 3 v6 (xs.length+1) (xs.flatMap encBl++[.int .i64 k3,.int .i64 n3,s3])) (hg:w3.grownBy w6 v.ownBlock) (hk:v6.ownBlock=v.ownBlock∨∃ k,v6.ownBlock=some k∧w3.heap.size≤k):BX w6 w.heap.size v6 (xs++[.mk k3 n3 s3 ys3]):=
 BX.snoc h (BIn.weak hx fun b hb=>⟨hb.1,hb.2,fun e=>by have:=hv b e.symm;omega⟩) (by omega) (GOwn.snoc (x:=BlL.mk k3 n3 s3 ys3) ho) hg hk
theorem row_part{w:World}{b off n cap at':Nat}(h:GRow encI 1 w (.slice (some ⟨b,off,none⟩) n cap) l)(h1:at'<k)(h2:k≤l.length):GRow encI 1 w (.slice (some ⟨b,off+at',none⟩) (k - at') (cap - at')) ((l.take k).drop at'):=by
 obtain⟨a,c2,e,z1,z2,hc⟩:=irow_at h;obtain⟨rfl,rfl,rfl⟩:=Value.slice.inj e;have h9:=slice_row (l:=at') (h:=k) h (by omega) h2;unfold sliced at h9;rw [if_neg (by omega)] at h9;unfold GRow;have e1:((l.take k).drop at').length=k - at':=by rw [List.length_drop,List.length_take];omega
 have e2:((l.take k).drop at').flatMap encI=((l.flatMap encI).drop (at'*1)).take ((k - at')*1):=by rw [encI_map,encI_map,Nat.mul_one,Nat.mul_one,← List.map_drop,← List.map_take,← List.map_drop,← List.map_take];congr 2;rw [List.drop_take]
 rw [e1,e2];simpa [Addr.add_lit] using h9
attribute [local irreducible] piecesTo pieceM blkM cutB
theorem bof_any(r n:Nat)(R:List (Nat × Nat)):∀(f:Nat) (l:List Nat) (v:Value) (w:World),l.length<f→l.length≤1000000→(∀ i∈l,i≤1000000)→RelAt w r n R→GRow encI 1 w v l →
  Calls Tryz.prog 53 #[.pointer (some ⟨r,0,none⟩),v] w (OfRes w (blkM R f l))
 | 0,l,v,w,hf,_,_,_,_=>absurd hf (Nat.not_lt_zero _)
 | f+1,l,v,w,hf,hn,hl,h,hv=>by
  have hih:=bof_any r n R f;obtain⟨a,cap,rfl,h1,h2,hc⟩:=irow_at hv;have HV:=Lh hv;unfold maxLen at h2;have HR:=Lh h;have HL:=Lh hl;have HIH:Hid (∀(t:List Nat) (tv:Value) (W:World),t.length<f→t.length≤1000000→(∀ i∈t,i≤1000000)→RelAt W r n R→GRow encI 1 W tv t→Calls Tryz.prog 53 #[.pointer (some ⟨r,0,none⟩),tv] W (OfRes W (blkM R f t))):=Lh fun t tv W ht h0 h1 h2 h3=>hih t tv W ht h0 h1 h2 h3;have HBK:Hid (blkM R (f+1) l=(piecesTo R l l.length).1.map (pieceM R (blkM R f))):=Lh (by rw [blkM];rfl);clear hv h hl hih;go_enter Tryz.func53,Tryz.ntmps53;go_wp2;go_loopw [5,6,10] (fun v5 v6 v10 wr=>BoRel w R f l v5 v6 v10 wr) (fun _ _ v10 _=>l.length - (intOf v10).toNat)
  case atStart=>exact⟨0,0,[],by omega,rfl,rfl,Lh (bx_nil _ _),Lh (by rw [pieces_zero];rfl),by rw [pieces_zero],Below.refl _ _⟩
  obtain⟨i,at',xs,hi,rfl,rfl,HX,HBa,hat,hbl⟩:=hrel;rename World=>wr;have HBr:=Lh hbl;have hai:at'≤i:=by rw [hat];exact pieces_at R l i
  have HAt:=Lh hat;have HXl:Hid (xs.length≤i):=Lh (by have h9:=congrArg List.length HBa.o;rw [bareL_map,List.length_map,List.length_map] at h9;rw [h9];exact pieces_few R l i);clear hat hbl
  by_cases hlt:i<l.length
  rotate_left
  · obtain rfl:i=l.length:=(by omega);go_wp2;go_ret;exact⟨_,xs,rfl,HX.o,by rw [HBa.o,HBK.o],HBr.o⟩
  obtain⟨b,off,rfl,sb,hcb⟩:=hc.resolve_left (by omega);clear hcb;have HPc:Hid (∀(tv:Value) (W:World),Be w W→GRow encI 1 W tv ((l.take (i+1)).drop at')→Calls Tryz.prog 106 #[.pointer (some ⟨r,0,none⟩),tv] W (PcRes W (pieceM R (blkM R f) ((l.take (i+1)).drop at')))):=Lh fun tv W hW hr=>bpiece_any f r n R tv _ W (HR.o.over hW) hr (fun z hz=>HL.o z (List.mem_of_mem_take (List.mem_of_mem_drop hz))) (by rw [List.length_drop,List.length_take];omega) (by rw [List.length_drop,List.length_take];omega) (by rw [List.length_drop,List.length_take];omega) HIH.o
  by_cases hlast:i+1=l.length
  ·
   have HPt:=Lh (pieces_yes (R:=R) (.inl hlast));have g1:((i:Int)+1 == (l.length:Int))=true:=(by rw [beq_iff_eq];omega);have HSlr:Hid (GRow encI 1 wr (.slice (some ⟨b,off+at',none⟩) (i+1 - at') (cap - at')) ((l.take (i+1)).drop at')):=Lh (row_part (HV.o.over HBr.o) (by omega) (by omega));rw [← HAt.o] at HPt;clear hlast;go_wp2_with fail
   with_reducible refine(HPc.o _ _ HBr.o HSlr.o).mono ?_
   rintro e w3 ⟨k3,n3,s3,ys3,rfl,hb3,hi3,hbw3⟩;have hs3:=(bin_mk.1 hi3).2.1;have HB3:=Lh hb3;have HI3:=Lh hi3;have HX3:=Lh (HX.o.over hbw3);have HBw3:=Lh (bvo HBr.o hbw3);have hN:xs.length+1≤1099511627776:=(by have:=HXl.o;omega);have hB3:=HBw3.o.size;have hBr3:=hbw3.size;have HO3:=Lh HX3.o.own;clear hb3 hi3 hbw3;go_wp2_with (at_builtin;(first|refine wpList_append_newK slBlk rfl _ _ rfl w.heap.size #[.int .i64 k3,.int .i64 n3,s3] 183 (drf _) 1 _ _ _ HO3.o rfl rfl rfl (by simp [hs3];exact⟨rfl,rfl⟩) hN (by decide) hB3 ?_|refine wpList_append_newK slBlk rfl _ _ rfl w.heap.size #[.int .i64 k3,.int .i64 n3,s3] 183 (ddw _) 1 _ _ _ HO3.o rfl rfl rfl (by simp [hs3];exact⟨rfl,rfl⟩) hN (by decide) hB3 ?_);intro v6 w6 ho6 hg6 hv6);go_roundw
   case rel=>exact⟨i+1,i+1,xs++[.mk k3 n3 s3 ys3],hlt,by go_num,by go_num,Lh (of_snoc HX3.o HI3.o (Nat.le_refl _) HBr.o.size (fun b hb=>gown_size HX.o.own hb) ho6 hg6 hv6),Lh (by rw [bareL_snoc,HBa.o,HB3.o,HPt.o,List.map_append];rfl),by rw [HPt.o],bgr HBw3.o hB3 HO3.o hg6⟩
   simp [intOf];omega
  have g1:((i:Int)+1 == (l.length:Int))=false:=by rw [beq_eq_false_iff_ne];omega
  cases hcu:cutB R l (i+1) with
  | true =>
   have HPt:=Lh (pieces_yes (R:=R) (.inr hcu));have HSlr:Hid (GRow encI 1 wr (.slice (some ⟨b,off+at',none⟩) (i+1 - at') (cap - at')) ((l.take (i+1)).drop at')):=Lh (row_part (HV.o.over HBr.o) (by omega) (by omega));have HCu:=Lh hcu;rw [← HAt.o] at HPt;clear hcu;go_wp2_with fail;refine(bcut_any r n R _ l (i+1) _ (HR.o.over HBr.o) (HV.o.over HBr.o) HL.o (by omega)).mono ?_;rw [HCu.o];rintro e w2 ⟨rfl,hw⟩;obtain rfl:=hw.symm;go_wp2_with fail
   with_reducible refine(HPc.o _ _ HBr.o HSlr.o).mono ?_
   rintro e w3 ⟨k3,n3,s3,ys3,rfl,hb3,hi3,hbw3⟩;have hs3:=(bin_mk.1 hi3).2.1;have HB3:=Lh hb3;have HI3:=Lh hi3;have HX3:=Lh (HX.o.over hbw3);have HBw3:=Lh (bvo HBr.o hbw3);have hN:xs.length+1≤1099511627776:=(by have:=HXl.o;omega);have hB3:=HBw3.o.size;have hBr3:=hbw3.size;have HO3:=Lh HX3.o.own;clear hb3 hi3 hbw3;go_wp2_with (at_builtin;(first|refine wpList_append_newK slBlk rfl _ _ rfl w.heap.size #[.int .i64 k3,.int .i64 n3,s3] 183 (drf _) 1 _ _ _ HO3.o rfl rfl rfl (by simp [hs3];exact⟨rfl,rfl⟩) hN (by decide) hB3 ?_|refine wpList_append_newK slBlk rfl _ _ rfl w.heap.size #[.int .i64 k3,.int .i64 n3,s3] 183 (ddw _) 1 _ _ _ HO3.o rfl rfl rfl (by simp [hs3];exact⟨rfl,rfl⟩) hN (by decide) hB3 ?_);intro v6 w6 ho6 hg6 hv6);go_roundw
   case rel=>exact⟨i+1,i+1,xs++[.mk k3 n3 s3 ys3],hlt,by go_num,by go_num,Lh (of_snoc HX3.o HI3.o (Nat.le_refl _) HBr.o.size (fun b hb=>gown_size HX.o.own hb) ho6 hg6 hv6),Lh (by rw [bareL_snoc,HBa.o,HB3.o,HPt.o,List.map_append];rfl),by rw [HPt.o],bgr HBw3.o hB3 HO3.o hg6⟩
   simp [intOf];omega
  | false =>
   have HPt:=Lh (pieces_no (R:=R) (k:=i) (fun q=>q.elim hlast (fun q=>by rw [hcu] at q;cases q)));have HCu:=Lh hcu;clear hcu;go_wp2_with fail;refine(bcut_any r n R _ l (i+1) _ (HR.o.over HBr.o) (HV.o.over HBr.o) HL.o (by omega)).mono ?_;rw [HCu.o];rintro e w2 ⟨rfl,hw⟩;obtain rfl:=hw.symm;go_wp2;go_roundw
   case rel=>exact⟨i+1,at',xs,hlt,by go_num,rfl,HX,Lh (by rw [HPt.o];exact HBa.o),by rw [HPt.o];exact HAt.o,HBr.o⟩
   simp [intOf];omega
end Go.Proofs.YtanfebljiblhbaaGreatDoor
set_option maxRecDepth 100000
set_option maxHeartbeats 40000000
namespace Go.Proofs.YtanfebljiblhbaaGreatDoor
open Go Go.RowKit
variable{k n:Int}{xs:List BlL}
mutual
def oddB:BlkM→Nat
 | .mk k _ s=>(if k=2∨k=3 then 1 else 0)+(if k=1 then 0 else oddL s)
def oddL:List BlkM→Nat
 | []=>0
 | b :: l=>oddB b+oddL l
end
theorem oddL_nil:oddL []=0:=by rw [oddL]
theorem oddL_cons(b:BlkM)(l:List BlkM):oddL (b :: l)=oddB b+oddL l:=by rw [oddL]
theorem oddL_append:∀ l m:List BlkM,oddL (l++m)=oddL l+oddL m
 | [],m=>by rw [List.nil_append,oddL_nil,Nat.zero_add]
 | b :: l,m=>by rw [List.cons_append,oddL_cons,oddL_cons,oddL_append l m];omega
theorem odd_succ{j:Nat}{x:BlL}(h:xs[j]? = some x):oddL (bareL (xs.take (j+1)))=oddL (bareL (xs.take j))+oddB (bareB x):=by rw [take_one h,bareL_snoc,oddL_append];rw [oddL_cons,oddL_nil,Nat.add_zero]
theorem odd_le(j:Nat):oddL (bareL (xs.take j))≤oddL (bareL xs):=by
 have h:bareL xs=bareL (xs.take j)++bareL (xs.drop j):=by rw [bareL_map,bareL_map,bareL_map,← List.map_append,List.take_append_drop]
 rw [h,oddL_append];omega
theorem oddB_mk(k n:Int)(s:List BlkM):oddB (.mk k n s)=(if k=2∨k=3 then 1 else 0)+(if k=1 then 0 else oddL s):=by rw [oddB]
theorem odd_1(n:Int)(s:List BlkM):oddB (.mk 1 n s)=0:=by rw [oddB_mk];simp
theorem odd_23{s:List BlkM}(h:k=2∨k=3):oddB (.mk k n s)=1+oddL s:=by rw [oddB_mk,if_pos h,if_neg (by omega)]
theorem odd_0{s:List BlkM}(h1:k≠1)(h2:¬ (k=2∨k=3)):oddB (.mk k n s)=oddL s:=by rw [oddB_mk,if_neg h2,if_neg h1,Nat.zero_add]
theorem bins_mem{A:Nat→Prop}{w:World}:∀ {l:List BlL} {x:BlL},BIns A w l→x∈l→BIn A w x
 | [],x,_,hx=>absurd hx (List.not_mem_nil)
 | b :: l,x,h,hx=>by
  unfold BIns at h;rcases List.mem_cons.1 hx with rfl|hx
  · exact h.1
  exact bins_mem h.2 hx
theorem size_sub{sv:Value}{s:List BlL}(h:BlL.mk k n sv s∈xs):SizeOf.sizeOf s<SizeOf.sizeOf xs:=by
 have h1:=List.sizeOf_lt_of_mem h;have h2:SizeOf.sizeOf s<SizeOf.sizeOf (BlL.mk k n sv s):=by simp;omega
 omega
theorem bareL_nil:bareL []=[]:=by rw [bareL]
def OddRel(w:World)(xs:List BlL)(v3 v8:Value)(wr:World):Prop:=∃ j:Nat,j≤xs.length∧v8=.int .i64 j∧v3=.int .i64 (oddL (bareL (xs.take j)):Int)∧Be w wr
attribute [local irreducible] oddL oddB bareL bareB
theorem bodd_any(A:Nat→Prop):∀(N:Nat) (v:Value) (xs:List BlL) (w:World),SizeOf.sizeOf xs<N→GRow encBl 3 w v xs→BIns A w xs→oddL (bareL xs)≤1000000 →
  Calls Tryz.prog 80 #[v] w fun e w'=>e=.returned (.int .i64 (oddL (bareL xs):Int))∧Be w w'
 | 0,v,xs,w,hs,_,_,_=>absurd hs (Nat.not_lt_zero _)
 | N+1,v,xs,w,hs,hv,hi,ho=>by
  have HIH:=Lh (bodd_any A N);obtain⟨a,cap,rfl,h1,h2,hc⟩:=hv.at encBl_len;unfold maxLen at h2;have HC:=Lh hc;have HI:=Lh hi;have HS:=Lh hs;have HO:=Lh ho;clear hv hi hc hs ho;go_enter Tryz.func80,Tryz.ntmps80;go_wp2;go_loopw [3,8] (fun v3 v8 wr=>OddRel w xs v3 v8 wr) (fun _ v8 _=>xs.length - (intOf v8).toNat)
  case atStart=>exact⟨0,by omega,rfl,by rw [List.take_zero,bareL_nil,oddL_nil];rfl,Below.refl _ _⟩
  obtain⟨j,hj,rfl,rfl,hbl⟩:=hrel;rename World=>wr;have HB:=Lh hbl
  by_cases hlt:j<xs.length
  rotate_left
  · obtain rfl:j=xs.length:=(by omega);rw [List.take_length];go_wp2;go_ret;exact⟨rfl,HB.o⟩
  obtain⟨b,off,rfl,sb,hcb⟩:=HC.o.resolve_left (by omega);obtain⟨⟨kd,nm,sv,sub⟩,hx⟩:=gol hlt;have hr:=hcb j _ hx wr hbl;have sx:=hr.1;have x0:wr.cell? ⟨b,off+j*3,none⟩=some (.int .i64 kd):=hr.2 0 _ rfl;have x1:wr.cell? ⟨b,off+j*3+1,none⟩=some (.int .i64 nm):=hr.2 1 _ rfl;have x2:wr.cell? ⟨b,off+j*3+2,none⟩=some sv:=hr.2 2 _ rfl;have hm:=List.mem_of_getElem? hx;have hin:=bin_mk.1 (bins_mem HI.o hm);obtain⟨a',cap',esv,_,_,_⟩:=hin.1.at encBl_len;subst esv;have HSub:=Lh hin.1;have HSin:=Lh hin.2.2.2;have HSz:Hid (SizeOf.sizeOf sub<N):=Lh (by have:=size_sub hm;have:=HS.o;omega);have hsu:=odd_succ hx;have hle:=odd_le (xs:=xs) (j+1);have hot:=HO.o;obtain⟨oj,hoj⟩:∃ oj,oddL (bareL (xs.take j))=oj:=⟨_,rfl⟩;rw [hoj] at hsu;rw [hoj];rw [show bareB (.mk kd nm (.slice a' sub.length cap') sub)=.mk kd nm (bareL sub) from by unfold bareB;rfl] at hsu;clear hcb hx hr hin hm hoj
  by_cases k1:kd=1
  ·
   subst k1;rw [odd_1] at hsu;have HSu:Hid (oddL (bareL (xs.take (j+1)))=oj):=Lh (by omega);clear hsu hle;go_upto_region 5 with fail;have HK:=Lh (anw wr #[.int .i64 1,.int .i64 nm,.slice a' sub.length cap'] 183);have HN:=Lh (bnew (w:=wr) (.cells #[.int .i64 1,.int .i64 nm,.slice a' sub.length cap'] 183));generalize wr.alloc (.cells #[.int .i64 1,.int .i64 nm,.slice a' sub.length cap'] 183)=w0 at *;obtain⟨y0,y1,y2,sy⟩:=HK.o.c3;go_wp2;go_roundw
   case rel=>exact⟨j+1,hlt,by go_num,by rw [HSu.o],bvo HB.o HN.o⟩
   simp [intOf];omega
  obtain⟨ob,hob⟩:∃ ob,oddL (bareL sub)=ob:=⟨_,rfl⟩;have HOb:=Lh hob
  by_cases k2:kd=2
  ·
   subst k2;rw [odd_23 (.inl rfl),hob] at hsu;have HSu:Hid (oddL (bareL (xs.take (j+1)))=oj+1+ob):=Lh (by omega);have hb1:oj+1+ob≤1000000:=(by omega);clear hsu hle hot hob k1;go_upto_region 5 with fail;have HK:=Lh (anw wr #[.int .i64 2,.int .i64 nm,.slice a' sub.length cap'] 183);have HN:=Lh (bnew (w:=wr) (.cells #[.int .i64 2,.int .i64 nm,.slice a' sub.length cap'] 183));generalize wr.alloc (.cells #[.int .i64 2,.int .i64 nm,.slice a' sub.length cap'] 183)=w0 at *;obtain⟨y0,y1,y2,sy⟩:=HK.o.c3;go_wp2_with fail;refine(HIH.o _ sub _ HSz.o (HSub.o.over (bvo HB.o HN.o)) (HSin.o.over (bvo HB.o HN.o)) (by rw [HOb.o];omega)).mono ?_;rw [HOb.o];rintro e w2 ⟨rfl,hb2⟩;have HB2:=Lh (bvo (bov HB.o HB.o.size HN.o) hb2);clear hb2;go_wp2;go_roundw
   case rel=>exact⟨j+1,hlt,by go_num,by rw [HSu.o];go_num,HB2.o⟩
   simp [intOf];omega
  by_cases k3:kd=3
  ·
   subst k3;rw [odd_23 (.inr rfl),hob] at hsu;have HSu:Hid (oddL (bareL (xs.take (j+1)))=oj+1+ob):=Lh (by omega);have hb1:oj+1+ob≤1000000:=(by omega);clear hsu hle hot hob k1 k2;go_upto_region 5 with fail;have HK:=Lh (anw wr #[.int .i64 3,.int .i64 nm,.slice a' sub.length cap'] 183);have HN:=Lh (bnew (w:=wr) (.cells #[.int .i64 3,.int .i64 nm,.slice a' sub.length cap'] 183));generalize wr.alloc (.cells #[.int .i64 3,.int .i64 nm,.slice a' sub.length cap'] 183)=w0 at *;obtain⟨y0,y1,y2,sy⟩:=HK.o.c3;go_wp2_with fail;refine(HIH.o _ sub _ HSz.o (HSub.o.over (bvo HB.o HN.o)) (HSin.o.over (bvo HB.o HN.o)) (by rw [HOb.o];omega)).mono ?_;rw [HOb.o];rintro e w2 ⟨rfl,hb2⟩;have HB2:=Lh (bvo (bov HB.o HB.o.size HN.o) hb2);clear hb2;go_wp2;go_roundw
   case rel=>exact⟨j+1,hlt,by go_num,by rw [HSu.o];go_num,HB2.o⟩
   simp [intOf];omega
  rw [odd_0 k1 (by omega),hob] at hsu;have HSu:Hid (oddL (bareL (xs.take (j+1)))=oj+ob):=Lh (by omega);have hb1:oj+ob≤1000000:=by omega
  have g1:(kd == 1)=false:=by rw [beq_eq_false_iff_ne];exact k1
  have g1':(kd != 1)=true:=by rw [bne_iff_ne];exact k1
  have g2:(kd == 2)=false:=by rw [beq_eq_false_iff_ne];exact k2
  have g3:(kd == 3)=false:=by rw [beq_eq_false_iff_ne];exact k3
  clear hsu hle hot hob;go_upto_region 5 with fail;have HK:=Lh (anw wr #[.int .i64 kd,.int .i64 nm,.slice a' sub.length cap'] 183);have HN:=Lh (bnew (w:=wr) (.cells #[.int .i64 kd,.int .i64 nm,.slice a' sub.length cap'] 183));generalize wr.alloc (.cells #[.int .i64 kd,.int .i64 nm,.slice a' sub.length cap'] 183)=w0 at *;obtain⟨y0,y1,y2,sy⟩:=HK.o.c3;go_wp2_with fail;refine(HIH.o _ sub _ HSz.o (HSub.o.over (bvo HB.o HN.o)) (HSin.o.over (bvo HB.o HN.o)) (by rw [HOb.o];omega)).mono ?_;rw [HOb.o];rintro e w2 ⟨rfl,hb2⟩;have HB2:=Lh (bvo (bov HB.o HB.o.size HN.o) hb2);clear hb2;go_wp2;go_roundw
  case rel=>exact⟨j+1,hlt,by go_num,by rw [HSu.o];go_num,HB2.o⟩
  simp [intOf];omega
end Go.Proofs.YtanfebljiblhbaaGreatDoor
namespace Go.Proofs.YtanfebljiblhbaaGreatDoor
open Go Go.RowKit
attribute [local irreducible] keptV1 aliveX
end Go.Proofs.YtanfebljiblhbaaGreatDoor
