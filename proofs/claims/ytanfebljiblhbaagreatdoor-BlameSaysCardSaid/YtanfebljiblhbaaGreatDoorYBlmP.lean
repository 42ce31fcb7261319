/- Part of the proof that of any graph each file's lines, whose they are, and how many lines any author has, are as the document says. No conditions. -/
import Derived.Test.YtanfebljiblhbaaGreatDoorYLay3
import Derived.Test.YtanfebljiblhbaaGreatDoorYEdB
set_option linter.unusedVariables false
set_option linter.unusedSimpArgs false
set_option maxRecDepth 100000
set_option maxHeartbeats 40000000
namespace Go.Proofs.YtanfebljiblhbaaGreatDoor
open Go Go.RowKit
section
variable{s t:List Nat}{B cap g:Nat}{w:World}
theorem encI_map(s:List Nat):s.flatMap encI=(s.map Int.ofNat).map (Value.int .i64):=by
 induction s with
 | nil=>rfl
 | cons x s ih=>rw [List.flatMap_cons,ih];rfl
theorem putCells_encI{α:Type}[Inhabited α](enc:α→Value)(d:Array α)(c:Array Value):Go.Sort.putCells enc 0 d c=Go.Sort.putCells id 0 (d.map enc) c:=by
 apply Array.ext_getElem?;intro t;simp only [Go.Sort.putCells,Array.getElem?_mapIdx,Array.size_map,Nat.sub_zero,id]
 by_cases h:t<d.size
 · rw [getElem!_pos d t h,getElem!_pos (d.map enc) t (by simpa using h)];simp
 simp [h]
theorem OwnAt.holdsI{e:TypeId}(h:OwnAt w B e 1 g s.length cap (s.flatMap encI)):Go.Sort.Holds (Value.int .i64) w g 0 (s.map Int.ofNat).toArray:=by
 intro j hj;rw [Nat.zero_add];refine⟨?_,h.free j⟩;refine h.cell ?_;have hj':j<s.length:=by simpa using hj
 rw [encI_map,List.getElem?_map,List.getElem?_map,List.getElem?_eq_getElem hj',getElem!_pos (s.map Int.ofNat).toArray j hj];simp
theorem OwnAt.putI{e:TypeId}(h:OwnAt w B e 1 g s.length cap (s.flatMap encI))(hl:t.length=s.length)(n:Nat)(os:Array Obj) :
  OwnAt (Go.Sort.grow (Go.Sort.putRow (Value.int .i64) (Go.Sort.ahead w n) g 0 (t.map Int.ofNat).toArray) os) B e 1 g s.length cap (t.flatMap encI)∧w.grownBy (Go.Sort.grow (Go.Sort.putRow (Value.int .i64) (Go.Sort.ahead w n) g 0 (t.map Int.ofNat).toArray) os) (some g):=by
 have hlt:=h.lt;obtain⟨junk,h1,h2⟩:=h.at';have hl2:(s.flatMap encI).length=(t.flatMap encI).length:=by rw [encI_map,encI_map];simp [hl]
 have hheap:(Go.Sort.putRow (Value.int .i64) (Go.Sort.ahead w n) g 0 (t.map Int.ofNat).toArray).heap[g]? = some (.cells (t.flatMap encI++junk).toArray e (0,0)):=by unfold Go.Sort.putRow Go.Sort.mapBlock;simp only [Array.getElem?_modify,if_pos];have:(Go.Sort.ahead w n).heap=w.heap:=rfl;rw [this,h1];simp only [Option.map_some,Go.Sort.onCells];rw [putCells_encI,List.map_toArray,← encI_map,putCells_row _ _ _ hl2]
 refine⟨⟨⟨junk,?_,?_⟩,by rw [← hl2];exact h.len,h.base,h.nc,h.cm⟩,?_⟩
 · rw [Go.Sort.heap_grow_old _ _ (by simp [Go.Sort.putRow,Go.Sort.mapBlock];exact hlt)];exact hheap
 · rw [List.length_append,← hl2,← List.length_append];exact h2
 refine⟨rfl,rfl,rfl,by simp [Go.Sort.putRow,Go.Sort.mapBlock,Go.Sort.ahead],fun i hi hne => ?_⟩;rw [Go.Sort.heap_grow_old _ _ (by simp [Go.Sort.putRow,Go.Sort.mapBlock];exact hi)];unfold Go.Sort.putRow Go.Sort.mapBlock;simp only [Array.getElem?_modify];rw [if_neg (fun e=>hne (by rw [e]))];rfl
theorem sortI_eq(hn:s.Nodup)(ht:t.Pairwise (· < ·))(hm:∀ x,x∈t↔x∈s):((s.map Int.ofNat).mergeSort fun x y=>decide (x≤y))=t.map Int.ofNat:=by
 have hperm:=List.mergeSort_perm (s.map Int.ofNat) fun x y=>decide (x≤y);have hsort:((s.map Int.ofNat).mergeSort fun x y=>decide (x≤y)).Pairwise fun a b=>decide (a≤b)=true:=List.pairwise_mergeSort (fun a b c h1 h2=>by simp only [decide_eq_true_eq] at *;omega) (fun a b=>by simp only [Bool.or_eq_true,decide_eq_true_eq];omega) _;have hnd:((s.map Int.ofNat).mergeSort fun x y=>decide (x≤y)).Nodup:=hperm.nodup_iff.2 ((List.pairwise_map).2 (hn.imp fun h e=>h (Int.ofNat.inj e)));have hmem:∀ z,z∈((s.map Int.ofNat).mergeSort fun x y=>decide (x≤y))↔z∈s.map Int.ofNat:=fun z=>hperm.mem_iff;refine rises_ext (key:=Int.toNat) ?_ ?_ fun z => ?_
 · have h2:=List.pairwise_and_iff.2 ⟨hsort,hnd⟩;refine h2.imp_of_mem fun {a b} ha hb h => ?_;obtain⟨x,_,rfl⟩:=List.mem_map.1 ((hmem a).1 ha);obtain⟨y,_,rfl⟩:=List.mem_map.1 ((hmem b).1 hb);have h3:=h.1;have h4:=h.2;simp only [decide_eq_true_eq] at h3;show x<y;have:x≠y:=fun e=>h4 (by rw [e]);have h5:(x:Int)≤(y:Int):=h3;omega
 · unfold Rises;rw [List.pairwise_map];exact ht.imp fun h=>h
 rw [hmem,List.mem_map,List.mem_map];exact⟨fun⟨x,h1,h2⟩=>⟨x,(hm x).2 h1,h2⟩,fun⟨x,h1,h2⟩=>⟨x,(hm x).1 h1,h2⟩⟩
def SortIRes(w:World)(B g cap:Nat)(s t:List Nat)(r:Ending)(w':World):Prop:=r=.returned (.tuple #[])∧OwnAt w' B 3 1 g s.length cap (t.flatMap encI)∧w.grownBy w' (some g)
theorem sortI_any(h:OwnAt w B 3 1 g s.length cap (s.flatMap encI))(hn:s.length≤1000000000)(hd:s.Nodup)(ht:t.Pairwise (· < ·))(hm:∀ x,x∈t↔x∈s) :
  Calls Tryz.prog 226 #[.slice (some ⟨g,0,none⟩) s.length cap] w (SortIRes w B g cap s t):=by have hcon:=AnyM.slices_Sort_int (P:=Tryz.prog) Tryz.sortInt g 0 cap (s.map Int.ofNat) w h.holdsI h.lt (by rw [List.length_map];omega);rw [List.length_map,sortI_eq hd ht hm] at hcon;refine hcon.mono ?_;rintro e w' ⟨rfl,n,os,rfl⟩;have hl:t.length=s.length:=Nat.le_antisymm (nodup_lenN (ht.imp fun h=>Nat.ne_of_lt h) fun x hx=>(hm x).1 hx) (nodup_lenN hd fun x hx=>(hm x).2 hx);obtain⟨h1,h2⟩:=h.putI hl n os;exact⟨rfl,h1,h2⟩
end
section
variable{R:List (Nat × Nat)}{l s:List Nat}{B at' gS i k n sz:Nat}{v v8:Value}{w wq wr:World}
structure SideL where
 s:List Nat
 v:Value
def encSd(x:SideL):List Value:=[x.v]
theorem encSd_len(x:SideL):(encSd x).length=1:=rfl
def seenV(S:Nat→Bool)(n:Nat):List Value:=(List.range n).map fun k=>.int .i64 (if S k then 1 else 0)
theorem seenV_len(S:Nat→Bool)(n:Nat):(seenV S n).length=n:=by unfold seenV;simp
theorem seenV_get{S:Nat→Bool}(h:k<n):(seenV S n)[k]? = some (.int .i64 (if S k then 1 else 0)):=by unfold seenV;simp [h]
theorem seenV_zero(n:Nat):seenV (fun _=>false) n=List.replicate n (.int .i64 0):=by unfold seenV;simp [List.map_const']
theorem seenV_set{S S':Nat→Bool}(h:∀ q,S' q=if q=k then true else S q):(seenV S n).set k (.int .i64 1)=seenV S' n:=by
 refine List.ext_getElem? fun q => ?_;rw [List.getElem?_set]
 by_cases hq:q<n
 ·
  rw [seenV_get hq,seenV_get hq,seenV_len,h q]
  by_cases hk:k=q
  · subst hk;simp [hq]
  have hk':¬ q=k:=fun e=>hk e.symm;simp only [if_neg hk,if_neg hk']
 have h1:(seenV S n)[q]? = none:=List.getElem?_eq_none (by rw [seenV_len];omega);have h2:(seenV S' n)[q]? = none:=List.getElem?_eq_none (by rw [seenV_len];omega);rw [h1,h2,seenV_len];split
 ·
  split
  · omega
  rfl
 rfl
theorem grown_far{w1 w2:World}{g g2:Nat}(h:w.grownBy w1 (some g))(hg:w.heap.size≤g2)(h':w1.grownBy w2 (some g2)):w.grownBy w2 (some g):=
 ⟨h'.os.trans h.os,h'.tape.trans h.tape,h'.output.trans h.output,Nat.le_trans h.size h'.size,fun k hk hn=>(h'.block k (Nat.lt_of_lt_of_le hk h.size) (fun e=>by cases e;omega)).trans (h.block k hk hn)⟩
theorem grown_belowS{w1 w2:World}{g:Nat}(h:w.grownBy w1 (some g))(h':Be w1 w2):w.grownBy w2 (some g):=
 ⟨h'.os.trans h.os,h'.tape.trans h.tape,h'.output.trans h.output,Nat.le_trans h.size h'.size,fun k hk hn=>(h'.block k (Nat.lt_of_lt_of_le hk h.size)).trans (h.block k hk hn)⟩
theorem own_lit28s{α:Type}{enc:α→List Value}(w:World)(e:TypeId)(xs:List α)(B:Nat)(hl:(xs.flatMap enc).length=xs.length*sz)(hm:xs.length≤maxLen)(hB:B≤w.heap.size):GOwn enc sz e (w.alloc (.cells (xs.flatMap enc).toArray e)) B (.slice (some ⟨w.heap.size,0,none⟩) xs.length xs.length) xs:=
 ⟨hl,.inr ⟨w.heap.size,xs.length,(xs.flatMap enc).toArray,rfl,hB,by rw [heap_alloc_new],Nat.le_refl _,hm,by simp [hl],by rw [← hl];exact List.take_length⟩⟩
theorem slSide:SlT Tryz.prog 215 89 1 24:=slT_of Tryz.underlying215 (by kernel_rfl) (by decide)
def SidesRes(w:World)(ss:List (List Nat))(e:Ending)(w':World):Prop:=∃ v xs,e=.returned v∧GOwn encSd 1 89 w' w.heap.size v xs∧(∀ x∈xs,GRow encI 1 w' x.v x.s)∧xs.map (·.s)=ss∧Be w w'
structure SiAt (wr w1:World) (gS:Nat) (R:List (Nat × Nat)) (l:List Nat) (i:Nat) (v5:Value) (xs:List SideL):Prop where
 out:GOwn encSd 1 89 wr w1.heap.size v5 xs
 rows:∀ x∈xs,GOwn encI 1 3 wr w1.heap.size x.v x.s
 bare:xs.map (·.s)=(headsM R l i).map (sideM R l)
 seen:ArrT wr gS 3 (seenV (seenB R l i) l.length)
 world:w1.grownBy wr (some gS)
def SiRel(w1:World)(gS:Nat)(R:List (Nat × Nat))(l:List Nat)(v5 v16:Value)(wr:World):Prop:=∃(i:Nat) (xs:List SideL),i≤l.length∧v16=.int .i64 i∧Hid (SiAt wr w1 gS R l i v5 xs)
structure SdAt (wq wr:World) (gS:Nat) (R:List (Nat × Nat)) (l:List Nat) (i at' k:Nat) (v8:Value) (s:List Nat):Prop where
 own:GOwn encI 1 3 wq wr.heap.size v8 s
 seen:ArrT wq gS 3 (seenV (markB R l i s) l.length)
 sd:Sd R l i at' k s
 world:wr.grownBy wq (some gS)
theorem SdAt.over{wp:World}(h:SdAt wq wr gS R l i at' k v8 s)(hb:Be wq wp):SdAt wp wr gS R l i at' k v8 s:=
 ⟨h.own.over hb,h.seen.over hb,h.sd,grown_belowS h.world hb⟩
theorem SdAt.go{k':Nat}(h:SdAt wq wr gS R l i at' k v8 s)(hs:Sd R l i at' k' s):SdAt wq wr gS R l i at' k' v8 s:=
 ⟨h.own,h.seen,hs,h.world⟩
structure SmAt (wq wr:World) (gS:Nat) (R:List (Nat × Nat)) (l:List Nat) (i at' k:Nat) (v8:Value) (s:List Nat):Prop where
 own:GOwn encI 1 3 wq wr.heap.size v8 s
 seen:ArrT wq gS 3 (seenV (markB R l i (s++[k])) l.length)
 sd:Sd R l i at' (k+1) (s++[k])
 world:wr.grownBy wq (some gS)
theorem SdAt.mark{n1:Nat}(h:SdAt wq wr gS R l i at' k v8 s)(hg:gS<wr.heap.size)(_:n1≤wr.heap.size)(hs:Sd R l i at' (k+1) (s++[k])):SmAt (wq.setCell ⟨gS,k,none⟩ (.int .i64 1)) wr gS R l i at' k v8 s:=by refine⟨own_set h.own (fun q=>by have:=gown_low h.own q;omega) _ _,?_,hs,gtr h.world (gsc _ _ _)⟩;have h9:=h.seen.set k (.int .i64 1);rw [seenV_set (S':=markB R l i (s++[k])) (fun q=>mark_snoc q)] at h9;exact h9
theorem SmAt.found{w9:World}{v9:Value}(h:SmAt wq wr gS R l i at' k v8 s)(ho:GOwn encI 1 3 w9 wr.heap.size v9 (s++[k]))(hg:wq.grownBy w9 v8.ownBlock)(hgs:gS<wr.heap.size):SdAt w9 wr gS R l i at' (k+1) v9 (s++[k]):=by
 refine⟨ho,h.seen.kept hg (fun q => ?_),h.sd,?_⟩
 · have:=gown_low h.own q.symm;omega
 cases hv:v8.ownBlock with
 | none=>rw [hv] at hg;exact⟨hg.os.trans h.world.os,hg.tape.trans h.world.tape,hg.output.trans h.world.output,Nat.le_trans h.world.size hg.size,fun q hq hn=>(hg.block q (Nat.lt_of_lt_of_le hq h.world.size) (by intro e;cases e)).trans (h.world.block q hq hn)⟩
 | some g2=>rw [hv] at hg;exact grown_far h.world (gown_low h.own hv) hg
theorem iown_more(h:w.ownsRow B 3 1 v (s.length+1) (s.flatMap encI++encI k)):∃(p:Option Addr) (c:Nat),v=.slice p (s++[k]).length c∧GOwn encI 1 3 w B v (s++[k]):=by have h2:=GOwn.snoc (x:=k) h;obtain⟨a,cap,e,_⟩:=irow_at h2.row;exact⟨a,cap,e,h2⟩
theorem near_lead(R:List (Nat × Nat))(i j:Nat):nearB R i j=(leadB R i j || leadB R j i):=rfl
theorem side_pair(R:List (Nat × Nat))(l:List Nat)(i:Nat):(sideM R l i).Pairwise (· < ·):=by unfold sideM;exact(List.pairwise_lt_range).filter _
theorem heads_few(R:List (Nat × Nat))(l:List Nat)(i:Nat):(headsM R l i).length≤i:=by unfold headsM;exact Nat.le_trans (List.length_filter_le _ _) (by rw [List.length_range];exact Nat.le_refl _)
theorem own_baseS{B':Nat}{e:TypeId}{xs:List Value}(h:w.ownsRow B e sz v n xs)(hB:B'≤B):w.ownsRow B' e sz v n xs:=by refine⟨h.1,h.2.imp id ?_⟩;rintro⟨b,cap,cur,h1,h2,h3⟩;exact⟨b,cap,cur,h1,Nat.le_trans hB h2,h3⟩
theorem own_byB{α β:Type}{enc:α→List Value}{enc':β→List Value}{sz':Nat}{e e':TypeId}{w':World}{B':Nat}{v':Value}{xs:List α}{ys:List β}(h:GOwn enc sz e w B v xs)(h':GOwn enc' sz' e' w B' v' ys)(hn:e≠e')(hgw:w.grownBy w' v'.ownBlock):GOwn enc sz e w' B v xs:=by
 refine own_grown h hgw ?_;rcases h.2 with⟨rfl,_⟩|⟨g,cap,cur,rfl,_,hg,_⟩
 · exact .inl rfl
 rcases h'.2 with⟨rfl,_⟩|⟨g',cap',cur',rfl,_,hg',_⟩
 · exact .inr (fun q=>by cases q)
 refine .inr (fun q => ?_);simp only [Value.ownBlock,Option.some.injEq] at q;subst q;rw [hg] at hg';simp only [Option.some.injEq,Obj.cells.injEq] at hg';exact hn hg'.2.1
def SdRel(wr:World)(gS:Nat)(R:List (Nat × Nat))(l:List Nat)(i:Nat)(v8 v9:Value)(wq:World):Prop:=∃(at' c:Nat) (p:Option Addr) (s:List Nat),v9=.int .i64 at'∧at'≤s.length∧v8=.slice p s.length c∧Hid (SdAt wq wr gS R l i at' 0 v8 s)
def SkRel(wr:World)(gS:Nat)(R:List (Nat × Nat))(l:List Nat)(i at':Nat)(v8 v37:Value)(wq:World):Prop:=∃(k c:Nat) (p:Option Addr) (s:List Nat),v37=.int .i64 k∧k≤l.length∧at'<s.length∧v8=.slice p s.length c∧Hid (SdAt wq wr gS R l i at' k v8 s)
attribute [local irreducible] sideM headsM seenB markB headB nearB leadB seenV
theorem bsides_any(r n:Nat)(R:List (Nat × Nat))(v:Value)(l:List Nat)(w:World)(h:RelAt w r n R)(hv:GRow encI 1 w v l)(hl:∀ i∈l,i≤1000000)(hn:l.length≤1000000)(h0:0<l.length) :
  Calls Tryz.prog 165 #[.pointer (some ⟨r,0,none⟩),v] w (SidesRes w (sidesM R l)):=by
 obtain⟨a,cap,rfl,h1,h2,hc⟩:=irow_at hv;unfold maxLen at h2;obtain⟨b,off,rfl,sb,hcb⟩:=hc.resolve_left (by omega);obtain⟨m,hmm⟩:∃ m,m=l.length:=⟨_,rfl⟩;have HC:=Lh hcb;have HR:=Lh h;have HL:=Lh hl;have HZ:=Lh (seenV_zero m);have hq:8*m≤281474976710656:=by omega
 have hmx:m≤maxLen:=by unfold maxLen;omega
 rw [← hmm] at h1 hn h0 ⊢;have HM:=Lh hmm;clear hv hcb h hl hc hmm;go_enter Tryz.func165,Tryz.ntmps165;go_upto_region 3 with(at_make;refine wpList_make_zeros slzIntE rfl _ _ rfl w.heap.size m _ rfl rfl rfl hq hmx (Nat.le_refl _) ?_;intro w1 ho1 hg1)
 have HB1:=Lh (grown_over' hg1 (fun g hg=>by cases hg));obtain⟨hA,_⟩:=own_full ho1;obtain⟨gS,hg⟩:∃ g,g=w.heap.size:=⟨_,rfl⟩;rw [← hg] at hA ⊢;rw [← HZ.o] at hA;have HA:=Lh hA;have hgl:w.heap.size≤gS:=by omega
 have hs1:=hA.arr.lt;clear hA ho1 hg1 hg;have HS0:Hid (SiAt w1 w1 gS R l 0 (.slice none 0 0) []):=Lh ⟨gown_nil _ _,fun x hx=>absurd hx (List.not_mem_nil),by unfold headsM;rfl,(by
  have e:seenB R l 0=fun _=>false:=by funext k;unfold seenB headsM;rfl
  rw [e,← HM.o];exact HA.o),⟨rfl,rfl,rfl,Nat.le_refl _,fun _ _ _=>rfl⟩⟩
 go_wp2;go_loopw [5,16] (fun v5 v16 wr=>SiRel w1 gS R l v5 v16 wr) (fun _ v16 _=>m - (intOf v16).toNat)
 case atStart=>exact⟨0,[],by omega,rfl,HS0⟩
 obtain⟨i,xs,hi,rfl,HI⟩:=hrel;rename World=>wr;have sg:=HI.o.seen.arr.lt
 by_cases hlt:i<m
 rotate_left
 ·
  obtain rfl:i=m:=by have:=HM.o;omega
  have HF:Hid (GOwn encSd 1 89 wr w.heap.size u5 xs∧(∀ x∈xs,GRow encI 1 wr x.v x.s)∧xs.map (·.s)=sidesM R l∧Be w wr):=Lh ⟨HI.o.out.base HB1.o.size,fun x hx=>(HI.o.rows x hx).row,(by rw [HI.o.bare];unfold sidesM;rw [HM.o]),HB1.o.grown HI.o.world HB1.o.size (fun k hk=>by cases hk;exact hgl)⟩;go_wp2;go_ret;exact⟨_,xs,rfl,HF.o⟩
 have c0:=HI.o.seen.arr.cell (seenV_get (S:=seenB R l i) (n:=l.length) (k:=i) (by rw [← HM.o];exact hlt));rw [seen_head] at c0;cases hh:headB R l i with
 | false =>
  have HH:=Lh hh;have c1:wr.cell? ⟨gS,i,none⟩=some (.int .i64 1):=by rw [c0,hh];rfl
  have HI2:Hid (SiAt wr w1 gS R l (i+1) u5 xs):=Lh ⟨HI.o.out,HI.o.rows,(by rw [HI.o.bare,heads_succ,HH.o];simp),(by rw [seen_next_no HH.o];exact HI.o.seen),HI.o.world⟩;clear c0 hh;go_wp2;go_roundw
  case rel=>exact⟨i+1,xs,by rw [← HM.o];exact hlt,by go_num,HI2⟩
  simp [intOf];omega
 | true =>
  have HH:=Lh hh;have c1:wr.cell? ⟨gS,i,none⟩=some (.int .i64 0):=by rw [c0,hh];rfl
  clear c0 hh;have f1:=HI.o.seen.arr.free i;have ez:(wr.setCell ⟨gS,i,none⟩ (.int .i64 1)).heap.size=wr.heap.size:=by simp
  have HW2:Hid (SdAt ((wr.setCell ⟨gS,i,none⟩ (.int .i64 1)).alloc (.cells #[.int .i64 i] 3)) wr gS R l i 0 0 (.slice (some ⟨wr.heap.size,0,none⟩) [i].length 1) [i]):=Lh ⟨(by
    have h9:=own_lit28s (enc:=encI) (sz:=1) (wr.setCell ⟨gS,i,none⟩ (.int .i64 1)) 3 [i] wr.heap.size rfl (by show 1≤maxLen;unfold maxLen;omega) (by rw [ez];exact Nat.le_refl _);rw [ez] at h9;exact h9),(by
    have h9:=(HI.o.seen.set i (.int .i64 1)).over (bnew (.cells #[.int .i64 i] 3));rw [seenV_set (S':=markB R l i [i]) (fun q=>by have:=mark_snoc (R:=R) (l:=l) (i:=i) (k:=i) (s:=[]) q;rw [List.nil_append] at this;rw [this];unfold markB;simp)] at h9;exact h9),sd_start (by rw [← HM.o];exact hlt),grown_belowS (gsc _ _ _) (bnew _)⟩
  have hil:i<l.length:=by rw [← HM.o];exact hlt
  go_upto_region 9 with fail;generalize (wr.setCell ⟨gS,i,none⟩ (.int .i64 1)).alloc (.cells #[.int .i64 i] 3)=w2 at *;clear c1 sg f1;go_wp2;go_loopw [8,9] (fun v8 v9 wq=>SdRel wr gS R l i v8 v9 wq) (fun _ v9 _=>m - (intOf v9).toNat)
  case atStart=>exact⟨0,1,some ⟨wr.heap.size,0,none⟩,[i],rfl,by simp,rfl,HW2⟩
  obtain⟨at',c,p,s,rfl,hat,rfl,HD⟩:=hrel;rename World=>wq;have hsl:=sd_len HD.o.sd;rw [← HM.o] at hsl
  by_cases hlt2:at'<s.length
  rotate_left
  ·
   obtain rfl:at'=s.length:=(by omega);have hsp:0<s.length:=List.length_pos_of_mem HD.o.sd.self;obtain⟨g8,c8,e8,hA8⟩:=own_at (show World.ownsRow _ _ _ _ _ _ _ from HD.o.own) (by omega);obtain⟨rfl,hcc,rfl⟩:=Value.slice.inj e8;clear hcc e8;have hg8:wr.heap.size≤g8:=gown_low HD.o.own rfl;have HSE:Hid (∀ x,x∈sideM R l i↔x∈s):=Lh fun x=>mem_sideM.trans (sd_end HD.o.sd x).symm;have HSP:Hid ((sideM R l i).Pairwise (· < ·)):=Lh (side_pair R l i);have HA8:=Lh hA8;have hgr:gS<wr.heap.size:=Nat.lt_of_lt_of_le hs1 HI.o.world.size;have hb1r:=HI.o.world.size;clear hA8;go_wp2_with fail;refine(sortI_any HA8.o (by omega) HD.o.sd.nodup HSP.o HSE.o).mono ?_;rintro e w4 ⟨rfl,hA4,hg4⟩;have hsl4:(sideM R l i).length=s.length:=Nat.le_antisymm (nodup_lenN (HSP.o.imp fun h=>Nat.ne_of_lt h) fun x hx=>(HSE.o x).1 hx) (nodup_lenN HD.o.sd.nodup fun x hx=>(HSE.o x).2 hx);have HW4:Hid (wr.grownBy w4 (some gS)):=Lh (grown_far HD.o.world hg8 hg4);have HO4:Hid (GOwn encI 1 3 w4 w1.heap.size (.slice (some ⟨g8,0,none⟩) s.length c) (sideM R l i)):=Lh (by have h9:=hA4.own;unfold GOwn;rw [hsl4];exact own_baseS h9 hb1r);have HSn4:Hid (ArrT w4 gS 3 (seenV (seenB R l (i+1)) l.length)):=Lh (by have h9:=HD.o.seen.kept hg4 (fun q=>by cases q;omega);rw [show markB R l i s=seenB R l (i+1) from funext fun q=>mark_end HH.o HD.o.sd q] at h9;exact h9);have HX4:Hid (GOwn encSd 1 89 w4 w1.heap.size u5 xs):=Lh (own_grown HI.o.out HW4.o (.inr fun q=>by have:=gown_low HI.o.out q;omega));have HR4:Hid (∀ x∈xs,GOwn encI 1 3 w4 w1.heap.size x.v x.s):=Lh fun x hx=>own_grown (HI.o.rows x hx) HW4.o (.inr fun q=>by have:=gown_low (HI.o.rows x hx) q;omega);have hxl:xs.length≤m:=(by have h9:=congrArg List.length HI.o.bare;rw [List.length_map,List.length_map] at h9;have:=heads_few R l i;omega);have hN4:xs.length+1≤1099511627776:=(by omega);have hB4:w1.heap.size≤w4.heap.size:=Nat.le_trans hb1r HW4.o.size;clear hA4 hg4;go_wp2_with (at_builtin;refine apD slSide rfl _ _ rfl w1.heap.size _ _ (drf _) 1 _ _ _ HX4.o rfl rfl rfl rfl hN4 (by decide) hB4 ?_;intro v9 w9 ho9 hg9);go_roundw
   case rel =>
    refine⟨i+1,xs++[⟨sideM R l i,.slice (some ⟨g8,0,none⟩) s.length c⟩],by rw [← HM.o];exact hlt,by go_num,Lh ⟨GOwn.snoc (x:=(⟨sideM R l i,.slice (some ⟨g8,0,none⟩) s.length c⟩:SideL)) ho9,fun x hx => ?_,?_,HSn4.o.grown HX4.o (by decide) hg9,?_⟩⟩
    ·
     rcases List.mem_append.1 hx with hx|hx
     · exact own_byB (HR4.o x hx) HX4.o (by decide) hg9
     rw [List.mem_singleton.1 hx];exact own_byB HO4.o HX4.o (by decide) hg9
    · rw [List.map_append,HI.o.bare,heads_succ,HH.o];simp
    have hw4:w1.grownBy w4 (some gS):=gtr HI.o.world HW4.o;cases hv:u5.ownBlock with
    | none=>rw [hv] at hg9;exact⟨hg9.os.trans hw4.os,hg9.tape.trans hw4.tape,hg9.output.trans hw4.output,Nat.le_trans hw4.size hg9.size,fun q hq hn=>(hg9.block q (Nat.lt_of_lt_of_le hq hw4.size) (by intro e;cases e)).trans (hw4.block q hq hn)⟩
    | some g2=>rw [hv] at hg9;exact grown_far hw4 (gown_low HX4.o hv) hg9
   simp [intOf];omega
  go_wp2;go_loopw [8,37] (fun v8 v37 wp=>SkRel wr gS R l i at' v8 v37 wp) (fun _ v37 _=>m - (intOf v37).toNat)
  case atStart=>exact⟨0,c,p,s,rfl,Nat.zero_le _,hlt2,rfl,HD⟩
  obtain⟨k,c2,p2,s2,rfl,hk,hat2,rfl,HE⟩:=hrel;rename World=>wp;rw [← HM.o] at hk;have hsl2:=sd_len HE.o.sd;rw [← HM.o] at hsl2
  by_cases hlt3:k<m
  rotate_left
  ·
   obtain rfl:k=m:=(by omega);have HE2:Hid (SdAt wp wr gS R l i (at'+1) 0 (.slice p2 s2.length c2) s2):=Lh ⟨HE.o.own,HE.o.seen,sd_next (by have:=HE.o.sd;rwa [HM.o] at this),HE.o.world⟩;go_wp2;go_roundw
   case rel=>exact⟨at'+1,c2,p2,s2,by go_num,hat2,rfl,HE2⟩
   simp [intOf];omega
  obtain⟨u,hu⟩:=gol hat2;have hul:=(HE.o.sd.near u (List.mem_of_getElem? hu)).right;obtain⟨xu,hxu⟩:=gol hul;obtain⟨xk,hxk⟩:=gol (xs:=l) (i:=k) (by rw [← HM.o];exact hlt3);have hgu:l.getD u 0=xu:=by rw [List.getD_eq_getElem?_getD,hxu];rfl
  have hgk:l.getD k 0=xk:=by rw [List.getD_eq_getElem?_getD,hxk];rfl
  have hxul:=HL.o xu (List.mem_of_getElem? hxu);have hxkl:=HL.o xk (List.mem_of_getElem? hxk);have hbw:Be w wp:=HB1.o.grown (gtr HI.o.world HE.o.world) HB1.o.size (fun k hk=>by cases hk;exact hgl);have HRp:=Lh (HR.o.over hbw);obtain⟨sl0,l0⟩:=HC.o u xu hxu wp hbw;have l1:=(HC.o k xk hxk wp hbw).2;obtain⟨p3,c3,e3,z1,z2,hcs⟩:=irow_at HE.o.own.row;cases e3
  unfold maxLen at z2;obtain⟨b2,off2,rfl,sb2,hcs2⟩:=hcs.resolve_left (by omega);obtain⟨_,m0⟩:=hcs2 at' u hu wp (Below.refl _ _);have d0:=HE.o.seen.arr.cell (seenV_get (S:=markB R l i s2) (n:=l.length) (k:=k) (by rw [← HM.o];exact hlt3));have sgp:=HE.o.seen.arr.lt;have hgr:gS<wr.heap.size:=Nat.lt_of_lt_of_le hs1 HI.o.world.size;have HHa:=Lh (rchHas_any r n xu xk R _ (HRp.o.over (Below.refl _ _).drew) hxul);have HHb:=Lh (rchHas_any r n xk xu R _ (HRp.o.over (Below.refl _ _).drew) hxkl);have HU:=Lh hu;have HNu:Hid (nearB R (l.getD u 0) (l.getD k 0)=(leadB R xu xk || leadB R xk xu)):=Lh (by rw [hgu,hgk];exact near_lead R xu xk);have hkl:k<l.length:=by rw [← HM.o];exact hlt3
  have hum:u<m:=by rw [HM.o];exact hul
  clear hu hxu hxk hgu hgk hcs hcs2;cases hmk:markB R l i s2 k with
  | true =>
   have HN:Hid (Sd R l i at' (k+1) s2):=Lh (sd_no HE.o.sd HU.o (by
    cases hnn:nearB R (l.getD u 0) (l.getD k 0) with
    | false=>exact .inl rfl
    | true =>rw [mark_not HH.o HE.o.sd HU.o hkl hnn] at hmk;exact .inr (List.contains_iff_mem.1 hmk)))
   rw [hmk] at d0;have d1:wp.cell? ⟨gS,k,none⟩=some (.int .i64 1):=d0;clear d0 hmk HHa HHb;go_upto_region 15 with fail;refine wlo 35 fun hcur=>?_;(repeat refine lxq ?_);refine lxe ?_;go_wp2;go_roundw
   case rel=>exact⟨k+1,c2,_,s2,by go_num,hkl,hat2,rfl,Lh (SdAt.go (HE.o.over hcur) HN.o)⟩
   simp [intOf];omega
  | false =>
   have hks:k ∉ s2:=(by intro hm;unfold markB at hmk;rw [List.contains_iff_mem.2 hm,Bool.or_true] at hmk;cases hmk);rw [hmk] at d0;have d1:wp.cell? ⟨gS,k,none⟩=some (.int .i64 0):=d0;clear d0 hmk;cases ha:leadB R xu xk with
   | true =>
    rw [ha] at HHa HNu;have HN:Hid (Sd R l i at' (k+1) (s2++[k])):=Lh (sd_yes HE.o.sd HU.o HNu.o hkl hks);clear hks HHb ha;go_upto_region 15 with fail;refine wlo 35 fun hcur=>?_;(repeat(first|refine lxq ?_|(refine lxl rfl ?_;go_wp2_with (first|(go_at_call 193;(with_reducible refine(HHa.o).mono ?_);rintro e w' ⟨rfl,rfl⟩));refine⟨iov hcur,?_⟩)));refine lxe ?_;have HEw:=Lh (HE.o.over hcur);generalize wp.drew=wo at *;have d0:=HEw.o.seen.arr.cell (seenV_get (S:=markB R l i s2) (n:=l.length) (k:=k) hkl);have d2:=HEw.o.seen.arr.free k;have sgo:=HEw.o.seen.arr.lt;have HEm:=Lh (HEw.o.mark hgr (show w1.heap.size≤wr.heap.size from HI.o.world.size) HN.o);clear hcur;go_upto_region 17 with fail;generalize wo.setCell ⟨gS,k,none⟩ (.int .i64 1)=w3 at *;clear d0 d2 sgo;have hN:s2.length+1≤1099511627776:=(by omega);have hB3:=HEm.o.world.size;have HO3:=Lh HEm.o.own;go_wp2_with (at_builtin;refine apD slIntI rfl _ _ rfl wr.heap.size _ _ (drf _) 1 _ _ _ HO3.o rfl rfl rfl rfl hN (by decide) hB3 ?_;intro v9 w9 ho9 hg9);obtain⟨p9,c9,e9,hO9⟩:=iown_more ho9;subst e9;go_roundw
    case rel=>exact⟨k+1,c9,p9,s2++[k],by go_num,hkl,by rw [List.length_append];omega,rfl,Lh (HEm.o.found hO9 hg9 hgr)⟩
    simp [intOf];omega
   | false =>
    cases hb:leadB R xk xu with
    | true =>
     rw [ha] at HHa HNu;rw [hb] at HHb HNu;have HN:Hid (Sd R l i at' (k+1) (s2++[k])):=Lh (sd_yes HE.o.sd HU.o HNu.o hkl hks);clear hks ha hb;go_upto_region 15 with fail;refine wlo 35 fun hcur=>?_;(repeat(first|refine lxq ?_|(refine lxl rfl ?_;go_wp2_with (first|(go_at_call 193;(with_reducible refine(HHa.o).mono ?_);rintro e w' ⟨rfl,rfl⟩)|(go_at_call 193;(with_reducible refine(HHb.o).mono ?_);rintro e w' ⟨rfl,rfl⟩));refine⟨iov hcur,?_⟩)));refine lxe ?_;have HEw:=Lh (HE.o.over hcur);generalize wp.drew=wo at *;have d0:=HEw.o.seen.arr.cell (seenV_get (S:=markB R l i s2) (n:=l.length) (k:=k) hkl);have d2:=HEw.o.seen.arr.free k;have sgo:=HEw.o.seen.arr.lt;have HEm:=Lh (HEw.o.mark hgr (show w1.heap.size≤wr.heap.size from HI.o.world.size) HN.o);clear hcur;go_upto_region 17 with fail;generalize wo.setCell ⟨gS,k,none⟩ (.int .i64 1)=w3 at *;clear d0 d2 sgo;have hN:s2.length+1≤1099511627776:=(by omega);have hB3:=HEm.o.world.size;have HO3:=Lh HEm.o.own;go_wp2_with (at_builtin;refine apD slIntI rfl _ _ rfl wr.heap.size _ _ (drf _) 1 _ _ _ HO3.o rfl rfl rfl rfl hN (by decide) hB3 ?_;intro v9 w9 ho9 hg9);obtain⟨p9,c9,e9,hO9⟩:=iown_more ho9;subst e9;go_roundw
     case rel=>exact⟨k+1,c9,p9,s2++[k],by go_num,hkl,by rw [List.length_append];omega,rfl,Lh (HEm.o.found hO9 hg9 hgr)⟩
     simp [intOf];omega
    | false =>
     rw [ha] at HHa HNu;rw [hb] at HHb HNu;have HN:Hid (Sd R l i at' (k+1) s2):=Lh (sd_no HE.o.sd HU.o (.inl HNu.o));clear hks ha hb;go_upto_region 15 with fail;refine wlo 35 fun hcur=>?_;(repeat(first|refine lxq ?_|(refine lxl rfl ?_;go_wp2_with (first|(go_at_call 193;(with_reducible refine(HHa.o).mono ?_);rintro e w' ⟨rfl,rfl⟩)|(go_at_call 193;(with_reducible refine(HHb.o).mono ?_);rintro e w' ⟨rfl,rfl⟩));refine⟨iov hcur,?_⟩)));refine lxe ?_;go_wp2;go_roundw
     case rel=>exact⟨k+1,c2,_,s2,by go_num,hkl,hat2,rfl,Lh (SdAt.go (HE.o.over hcur) HN.o)⟩
     simp [intOf];omega
end
section
variable{xs:List BlL}{lo:Nat}{v:Value}{w:World}
def Fit(lo:Nat)(w:World)(g:Option Nat)(b:Nat):Prop:=lo≤b∧b<w.heap.size∧some b≠g
structure BX (w:World) (lo:Nat) (v:Value) (xs:List BlL):Prop where
 own:GOwn encBl 3 183 w lo v xs
 ins:BIns (Fit lo w v.ownBlock) w xs
theorem bx_nil(w:World)(lo:Nat):BX w lo (.slice none 0 0) []:=⟨gown_nil _ _,bins_nil⟩
theorem BX.over{w':World}(h:BX w lo v xs)(hb:Be w w'):BX w' lo v xs:=
 ⟨h.own.over hb,BIns.mono (fun b hb'=>⟨hb'.1,Nat.lt_of_lt_of_le hb'.2.1 hb.size,hb'.2.2⟩) (fun _ _ _ h=>h.over hb) xs h.ins⟩
theorem grow_keptB{w':World}{g:Option Nat}(hg:w.grownBy w' g)(hb:∀ b,v.ownBlock=some b→some b≠g)(h:GRow encBl 3 w v xs):GRow encBl 3 w' v xs:=by obtain⟨h0,a,cap,rfl,h1,h2,h3,h4⟩:=h;refine⟨h0,a,cap,rfl,h1,h2,h3,fun hp => ?_⟩;obtain⟨b,off,rfl,hb2,hc⟩:=h4 hp;have hne:some b≠g:=hb b rfl;refine⟨b,off,rfl,Nat.lt_of_lt_of_le hb2 hg.size,fun j u hu => ?_⟩;rw [World.cell?_of_block (w:=w) (w':=w') (a:=⟨b,off+j,none⟩) (hg.block b hb2 hne)];exact hc j u hu
theorem BX.snoc{w9:World}{lo0:Nat}{v9:Value}{x:BlL}(h:BX w lo v xs)(hx:BIn (fun b=>lo0≤b∧b<w.heap.size∧some b≠v.ownBlock) w x)(hlo:lo≤lo0)
  (ho:GOwn encBl 3 183 w9 lo v9 (xs++[x])) (hg:w.grownBy w9 v.ownBlock) (hk:v9.ownBlock=v.ownBlock∨∃ k,v9.ownBlock=some k∧w.heap.size≤k):BX w9 lo v9 (xs++[x]):=by
 have hne:∀ b,b<w.heap.size→some b≠v.ownBlock→some b≠v9.ownBlock:=by
  intro b hb hn e;rcases hk with h1|⟨k,h1,h2⟩
  · exact hn (e.trans h1)
  rw [h1] at e;cases e;omega
 refine⟨ho,bins_append ?_ (bins_one ?_)⟩
 · exact BIns.mono (fun b hb=>⟨hb.1,Nat.lt_of_lt_of_le hb.2.1 hg.size,hne b hb.2.1 hb.2.2⟩) (fun u us hu hr=>grow_keptB hg (fun b hb=>(hu b hb).2.2) hr) xs h.ins
 exact BIn.mono (fun b hb=>⟨by have:=hb.1;omega,Nat.lt_of_lt_of_le hb.2.1 hg.size,hne b hb.2.1 hb.2.2⟩) (fun u us hu hr=>grow_keptB hg (fun b hb=>(hu b hb).2.2) hr) x hx
theorem fit_own(h:BX w lo v xs){b:Nat}(hb:v.ownBlock=some b):lo≤b∧b<w.heap.size:=⟨gown_low h.own hb,gown_size h.own hb⟩
theorem BX.block(h:BX w lo v xs)(k n:Int):BIn (fun b=>lo≤b∧b<w.heap.size) w (.mk k n v xs):=by refine bin_mk.2 ⟨h.own.row,?_,fun b hb=>fit_own h hb,BIns.mono (fun b hb=>⟨hb.1,hb.2.1⟩) (fun _ _ _ h=>h) xs h.ins⟩;rcases h.own.2 with⟨rfl,_⟩|⟨g,cap,cur,rfl,_⟩ <;> rfl
theorem BIn.weak{A A':Nat→Prop}{x:BlL}(h:BIn A w x)(hA:∀ b,A b→A' b):BIn A' w x:=BIn.mono hA (fun _ _ _ h=>h) x h
def PcRes(w:World)(m:BlkM)(e:Ending)(w':World):Prop:=∃(k n:Int) (sv:Value) (s:List BlL),e=.returned (.agg #[.int .i64 k,.int .i64 n,sv])∧bareB (.mk k n sv s)=m∧BIn (fun b=>w.heap.size≤b∧b<w'.heap.size) w' (.mk k n sv s)∧Be w w'
def OfRes(w:World)(ms:List BlkM)(e:Ending)(w':World):Prop:=∃ v xs,e=.returned v∧BX w' w.heap.size v xs∧bareL xs=ms∧Be w w'
end
section
variable{R:List (Nat × Nat)}{l s:List Nat}
theorem rowBlk:RowT Tryz.prog 183 3:=rowT_of Tryz.underlying183 rfl (by kernel_rfl)
theorem things_nil(l:List Nat):thingsM l []=[]:=rfl
attribute [local irreducible] sidesM pieceM blkM thingsM
theorem piece_one(R:List (Nat × Nat))(F:List Nat→List BlkM)(i:Nat):pieceM R F [i]=lineB i:=by unfold pieceM;rw [if_pos (show [i].length=1 from rfl)];rfl
theorem piece_knot{F:List Nat→List BlkM}(h1:l.length≠1)(h2:(sidesM R l).length=1):pieceM R F l=.mk 3 0 (l.map lineB):=by unfold pieceM;rw [if_neg h1,if_pos h2]
theorem piece_fork{F:List Nat→List BlkM}(h1:l.length≠1)(h2:(sidesM R l).length≠1):pieceM R F l=.mk 2 0 ((sidesM R l).map fun s=>.mk 4 0 (F (thingsM l s))):=by unfold pieceM;rw [if_neg h1,if_neg h2]
theorem bpiece_one(r:Nat)(R:List (Nat × Nat))(F:List Nat→List BlkM)(v:Value)(i:Nat)(w:World)(hv:GRow encI 1 w v [i]) :
  Calls Tryz.prog 106 #[.pointer (some ⟨r,0,none⟩),v] w (PcRes w (pieceM R F [i])):=by obtain⟨a,cap,rfl,h1,h2,hc⟩:=irow_at hv;unfold maxLen at h2;obtain⟨b,off,rfl,sb,hcb⟩:=hc.resolve_left (by simp);have HA:=Lh (anw w #[.int .i64 0,.int .i64 0,.slice none 0 0] 183);have HB:=Lh (bnew (w:=w) (.cells #[.int .i64 0,.int .i64 0,.slice none 0 0] 183));obtain⟨sl,x0'⟩:=hcb 0 i rfl (w.alloc (.cells #[.int .i64 0,.int .i64 0,.slice none 0 0] 183)) (bnew _);have x0:(w.alloc (.cells #[.int .i64 0,.int .i64 0,.slice none 0 0] 183)).cell? ⟨b,off,none⟩=some (.int .i64 i):=x0';clear x0';have hP:=piece_one R F i;clear hv hcb hc;go_enter Tryz.func106,Tryz.ntmps106;go_upto_region 1 with fail;generalize w.alloc (.cells #[.int .i64 0,.int .i64 0,.slice none 0 0] 183)=w0 at *;obtain⟨z0,z1,z2,sz⟩:=HA.o.c3;have f0:=HA.o.free 0;have f1:=HA.o.free 1;have f2:=HA.o.free 2;have HPc:=Lh hP;clear hP;go_wp2_with fail;refine bodyPost_ret (v:=.agg #[.int .i64 1,.int .i64 i,.slice none 0 0]) (results_arr rowBlk rfl (((HA.o.set 0 _).set 1 _).set 2 _) rfl rfl) rfl ?_;exact⟨1,i,.slice none 0 0,[],rfl,(lineL_bare i).trans HPc.o.symm,lineL_in _ _ i,(((HB.o.setCell (p:=⟨w.heap.size,0,none⟩) (Nat.le_refl _) (.int .i64 1)).setCell (p:=⟨w.heap.size,1,none⟩) (Nat.le_refl _) (.int .i64 i)).setCell (p:=⟨w.heap.size,2,none⟩) (Nat.le_refl _) (.slice none 0 0))⟩
theorem sides_lt(hs:s∈sidesM R l){k:Nat}(hk:k∈s):k<l.length:=by unfold sidesM at hs;obtain⟨i,_,rfl⟩:=List.mem_map.1 hs;exact(mem_sideM.1 hk).right
theorem things_step{q u y:Nat}(hu:s[q]? = some u)(hy:l[u]? = some y):thingsM l (s.take (q+1))=thingsM l (s.take q)++[y]:=by unfold thingsM;rw [take_one hu,List.map_append,List.map_cons,List.map_nil,List.getD_eq_getElem?_getD,hy];rfl
theorem sides_few(R:List (Nat × Nat))(l:List Nat):(sidesM R l).length≤l.length:=by unfold sidesM;rw [List.length_map];exact heads_few R l l.length
theorem things_le(hl:∀ i∈l,i≤1000000)(hs:s∈sidesM R l):∀ i∈thingsM l s,i≤1000000:=by intro i hi;unfold thingsM at hi;obtain⟨k,hk,rfl⟩:=List.mem_map.1 hi;have:=sides_lt hs hk;rw [List.getD_eq_getElem?_getD,List.getElem?_eq_getElem this];exact hl _ (List.getElem_mem _)
theorem bare_len{ys:List BlL}{ss:List (List Nat)}{F:List Nat→BlkM}{j:Nat}(h:bareL ys=(ss.take j).map F):ys.length≤j:=by have:=congrArg List.length h;rw [bareL_map,List.length_map,List.length_map,List.length_take] at this;omega
structure FkAt (wr w2:World) (gb:Nat) (R:List (Nat × Nat)) (l:List Nat) (f:Nat) (xs:List SideL) (j:Nat) (p:Option Addr) (c:Nat) (ys:List BlL):Prop where
 box:ArrT wr gb 183 [.int .i64 2,.int .i64 0,.slice p ys.length c]
 sub:BX wr w2.heap.size (.slice p ys.length c) ys
 bare:bareL ys=((sidesM R l).take j).map fun s=>.mk 4 0 (blkM R f (thingsM l s))
 world:w2.grownBy wr (some gb)
def FkRel(w2:World)(gb:Nat)(R:List (Nat × Nat))(l:List Nat)(f:Nat)(xs:List SideL)(v31:Value)(wr:World):Prop:=∃(j:Nat) (p:Option Addr) (c:Nat) (ys:List BlL),j≤xs.length∧v31=.int .i64 j∧Hid (FkAt wr w2 gb R l f xs j p c ys)
def ThRel(wr:World)(l s:List Nat)(v9 v37:Value)(wq:World):Prop:=∃(q:Nat) (p:Option Addr) (c:Nat),q≤s.length∧v37=.int .i64 q∧v9=.slice p (thingsM l (s.take q)).length c∧Hid (GOwn encI 1 3 wq wr.heap.size (.slice p (thingsM l (s.take q)).length c) (thingsM l (s.take q)))∧Be wr wq
theorem bareL_snoc(ys:List BlL)(x:BlL):bareL (ys++[x])=bareL ys++[bareB x]:=by rw [bareL_map,bareL_map,List.map_append];rfl
theorem BX.set{w:World}{lo gb k:Nat}{v u:Value}{xs:List BlL}(h:BX w lo v xs)(hg:gb<lo):BX (w.setCell ⟨gb,k,none⟩ u) lo v xs:=by refine⟨own_set h.own (fun q=>by have:=gown_low h.own q;omega) _ _,?_⟩;exact BIns.mono (fun b hb=>⟨hb.1,by have:=hb.2.1;simpa using this,hb.2.2⟩) (fun us ys hu hr=>grow_keptB (gsc (g:=gb) w k u) (fun b hb e=>by cases e;have:=(hu _ hb).1;omega) hr) xs h.ins
theorem FkAt.step{wr wq w2 w5 w6:World}{gb:Nat}{f j:Nat}{xs:List SideL}{p p6:Option Addr}{c c6:Nat}{ys ys5:List BlL}{sv5:Value}
  (h:FkAt wr w2 gb R l f xs j p c ys) (hq:Be wr wq) (h5:Be wq w5) (hx:BX w5 wq.heap.size sv5 ys5) (hb5:bareL ys5=blkM R f (thingsM l s)) (hs:(sidesM R l)[j]? = some s) (hgb:gb<w2.heap.size) (hwr:w2.heap.size≤wr.heap.size)
  (ho:w6.ownsRow w2.heap.size 183 3 (.slice p6 (ys.length+1) c6) (ys.length+1) (ys.flatMap encBl++[.int .i64 4,.int .i64 0,sv5])) (hg:w5.grownBy w6 (Value.slice p ys.length c).ownBlock)
  (hv:(Value.slice p6 (ys.length+1) c6).ownBlock=(Value.slice p ys.length c).ownBlock∨∃ k,(Value.slice p6 (ys.length+1) c6).ownBlock=some k∧w5.heap.size≤k) :
  FkAt (w6.setCell ⟨gb,2,none⟩ (.slice p6 (ys.length+1) c6)) w2 gb R l f xs (j+1) p6 c6 (ys++[.mk 4 0 sv5 ys5]):=by
 have hsub:=(h.sub.over hq).over h5;have hlen:(ys++[BlL.mk 4 0 sv5 ys5]).length=ys.length+1:=by simp
 have hxin:BIn (fun b=>wq.heap.size≤b∧b<w5.heap.size∧some b≠(Value.slice p ys.length c).ownBlock) w5 (.mk 4 0 sv5 ys5):=
  BIn.weak (hx.block 4 0) fun b hb=>⟨hb.1,hb.2,fun e=>by
   have:=gown_size h.sub.own e.symm
   have:=hq.size
   omega⟩
 have hown:GOwn encBl 3 183 w6 w2.heap.size (.slice p6 (ys.length+1) c6) (ys++[.mk 4 0 sv5 ys5]):=GOwn.snoc (x:=BlL.mk 4 0 sv5 ys5) ho;have hnew:=BX.snoc hsub hxin (by have:=hq.size;omega) hown hg hv;have hbox:=((h.box.over hq).over h5).kept hg (fun e=>by have:=gown_low h.sub.own e.symm;omega);refine⟨?_,?_,?_,?_⟩
 · rw [hlen];exact hbox.set 2 _
 · rw [hlen];exact hnew.set hgb
 · rw [bareL_snoc,h.bare,take_one hs,List.map_append,List.map_cons,List.map_nil];congr 1;unfold bareB;rw [hb5]
 have hw:w2.grownBy w5 (some gb):=grown_belowS (grown_belowS h.world hq) h5;refine gtr ?_ (gsc _ _ _);cases hv2:(Value.slice p ys.length c).ownBlock with
 | none=>rw [hv2] at hg;exact⟨hg.os.trans hw.os,hg.tape.trans hw.tape,hg.output.trans hw.output,Nat.le_trans hw.size hg.size,fun q hq hn=>(hg.block q (Nat.lt_of_lt_of_le hq hw.size) (by intro e;cases e)).trans (hw.block q hq hn)⟩
 | some g2=>rw [hv2] at hg;exact grown_far hw (gown_low h.sub.own hv2) hg
theorem pc_store{w w2 w3:World}{x:BlL}{lo gz:Nat}(h:BIn (fun b=>lo≤b∧b<w2.heap.size) w2 x)(hg:w2.grownBy w3 (some gz))(hz:gz<lo)(hw:w.heap.size≤lo):BIn (fun b=>w.heap.size≤b∧b<w3.heap.size) w3 x:=
 BIn.mono (fun b hb=>⟨Nat.le_trans hw hb.1,Nat.lt_of_lt_of_le hb.2 hg.size⟩) (fun u us hu hr=>grow_keptB hg (fun b hb e=>by cases e;have:=(hu _ hb).1;omega) hr) x h
theorem bpiece_any(f r n:Nat)(R:List (Nat × Nat))(v:Value)(l:List Nat)(w:World)(h:RelAt w r n R)(hv:GRow encI 1 w v l)(hl:∀ i∈l,i≤1000000)(hn:l.length≤1000000)(h0:0<l.length)(hf:l.length≤f)
  (hOf:∀(t:List Nat) (tv:Value) (W:World),t.length<f→t.length≤1000000→(∀ i∈t,i≤1000000)→RelAt W r n R→GRow encI 1 W tv t→Calls Tryz.prog 53 #[.pointer (some ⟨r,0,none⟩),tv] W (OfRes W (blkM R f t))) :
  Calls Tryz.prog 106 #[.pointer (some ⟨r,0,none⟩),v] w (PcRes w (pieceM R (blkM R f) l)):=by
 by_cases hl1:l.length=1
 · obtain⟨i,rfl⟩:=List.length_eq_one_iff.1 hl1;exact bpiece_one r R _ v i w hv
 obtain⟨a,cap,rfl,h1,h2,hc⟩:=irow_at hv;have hV:=Lh hv;unfold maxLen at h2;have HC:=Lh hc;have HR:=Lh h;have HL:=Lh hl;have HOf:=Lh hOf;have HA:=Lh (anw w #[.int .i64 0,.int .i64 0,.slice none 0 0] 183);have HB:=Lh (bnew (w:=w) (.cells #[.int .i64 0,.int .i64 0,.slice none 0 0] 183));have g1:((l.length:Int) == 1)=false:=by rw [beq_eq_false_iff_ne];omega
 have H1:=Lh hl1;clear hv h hl hOf hc hl1;go_enter Tryz.func106,Tryz.ntmps106;go_upto_region 1 with fail;generalize hw0:w.alloc (.cells #[.int .i64 0,.int .i64 0,.slice none 0 0] 183)=w0 at *;have hwz:=hw0;clear hw0;try unfold Be at *
 generalize hgz:w.heap.size=gz at *;have HGZ:=Lh hgz;have hgz0:w0.heap.size=gz+1:=by rw [← hwz];simp [hgz]
 clear hwz;go_wp2_with fail;refine(bsides_any r n R _ l _ (HR.o.over (by unfold Be;rw [hgz];exact HB.o)) (hV.out.over (by unfold Be;rw [hgz];exact HB.o)) HL.o hn h0).mono ?_;rintro e w1 ⟨sv,xs,rfl,ho,hrw,hbare,hb1⟩;rw [hgz0] at ho;obtain⟨pa,ca,e1,n1,n2,hcx⟩:=ho.row.at encSd_len;subst e1;unfold maxLen at n2;have HX:=Lh ho;have HCX:=Lh hcx;have HRW:=Lh hrw;have HBR:=Lh hbare;have HB1:=Lh (bov HB.o (by rw [hgz0];omega) hb1);have HA1:=Lh (HA.o.over hb1);have hxl:xs.length=(sidesM R l).length:=by have:=congrArg List.length hbare;rwa [List.length_map] at this
 have hz1:gz<w1.heap.size:=HA1.o.lt;clear ho hrw hbare hb1 hcx;obtain⟨y0,y1,y2,sy⟩:=HA1.o.c3;have k0:=HA1.o.free 0;have k1:=HA1.o.free 1;have k2:=HA1.o.free 2
 by_cases hs1:xs.length=1
 ·
  have g2:((xs.length:Int) == 1)=true:=by rw [beq_iff_eq];omega
  have HPk:=Lh (piece_knot (F:=blkM R f) H1.o (hxl▸hs1));have HBw1:Hid (Be w w1):=Lh (by unfold Be;rw [HGZ.o];exact HB1.o);clear hs1 hxl;go_wp2_with fail;refine(bsome_any _ l _ (hV.out.over HBw1.o) hn).mono ?_;rintro e w2 ⟨v2,rfl,ho2,hb2⟩;obtain⟨p2,c2,e2,_,_,_⟩:=ho2.row.at encBl_len;rw [List.length_map] at e2;subst e2;have HO2:=Lh ho2;have HB2:=Lh (bov HB1.o (by omega) hb2);have HA2:=Lh (HA1.o.over hb2);have hz2:=hb2.size;clear ho2 hb2 y0 y1 y2 sy k0 k1 k2;obtain⟨y0,y1,y2,sy⟩:=HA2.o.c3;have k0:=HA2.o.free 0;have k1:=HA2.o.free 1;have k2:=HA2.o.free 2;go_wp2_with fail;refine bodyPost_ret (v:=.agg #[.int .i64 3,.int .i64 0,.slice p2 l.length c2]) (results_arr rowBlk rfl (((HA2.o.set 0 _).set 1 _).set 2 _) rfl rfl) rfl ?_;refine⟨3,0,.slice p2 l.length c2,l.map lineL,rfl,?_,?_,?_⟩
  · rw [HPk.o];unfold bareB;rw [lines_bare]
  · have h9:BX w2 w1.heap.size (.slice p2 l.length c2) (l.map lineL):=⟨HO2.o,lines_in _ _ _⟩;exact pc_store (gz:=gz) (h9.block 3 0) (gtr (gtr (gsc w2 0 _) (gsc _ 1 _)) (gsc _ 2 _)) hz1 (by rw [HGZ.o];omega)
  unfold Be;rw [HGZ.o];exact(((HB2.o.setCell (p:=⟨gz,0,none⟩) (Nat.le_refl _) (.int .i64 3)).setCell (p:=⟨gz,1,none⟩) (Nat.le_refl _) (.int .i64 0)).setCell (p:=⟨gz,2,none⟩) (Nat.le_refl _) (.slice p2 l.length c2))
 have g2:((xs.length:Int) == 1)=false:=by rw [beq_eq_false_iff_ne];omega
 have HPf:=Lh (piece_fork (F:=blkM R f) H1.o (hxl▸hs1));have HNs:Hid ((sidesM R l).length≠1):=Lh (hxl▸hs1);have HXL:=Lh hxl;clear hs1 hxl;go_upto_region 7 with fail;have HBx:=Lh (arrT_new w1 [.int .i64 2,.int .i64 0,.slice none 0 0] 183);have HN1:=Lh (bnew (w:=w1) (.cells #[.int .i64 2,.int .i64 0,.slice none 0 0] 183));have HA2:=Lh (HA1.o.over HN1.o);have HS2:Hid (w1.heap.size+1=(w1.alloc (.cells #[.int .i64 2,.int .i64 0,.slice none 0 0] 183)).heap.size):=Lh (by simp);generalize w1.alloc (.cells #[.int .i64 2,.int .i64 0,.slice none 0 0] 183)=w2 at *;clear y0 y1 y2 sy k0 k1 k2;obtain⟨gb,hgb⟩:∃ gb,gb=w1.heap.size:=⟨_,rfl⟩;unfold Be at HN1;rw [← hgb] at HBx HS2 HN1 hz1 ⊢;have HGB:=Lh hgb;clear hgb;have HF0:Hid (FkAt w2 w2 gb R l f xs 0 none 0 []):=Lh ⟨HBx.o,bx_nil _ _,by rw [List.take_zero];rfl,World.grownBy.refl _ _⟩;go_wp2;go_loopw [8,9,11,31] (fun _ _ _ v31 wr=>FkRel w2 gb R l f xs v31 wr) (fun _ _ _ v31 _=>xs.length - (intOf v31).toNat)
 case atStart=>exact⟨0,none,0,[],Nat.zero_le _,rfl,HF0⟩
 obtain⟨j,p,c,ys,hj,rfl,HF⟩:=hrel;rename World=>wr;have HBr:Hid (Be w1 wr):=Lh (by have h9:=HN1.o;rw [HGB.o] at h9;exact h9.grown HF.o.world h9.size (fun k hk=>by cases hk;rw [HGB.o];exact Nat.le_refl _));have HBz:Hid (Below gz w wr):=Lh (bov HB1.o (by have:=HGB.o;omega) HBr.o)
 by_cases hlt:j<xs.length
 rotate_left
 ·
  obtain rfl:j=xs.length:=by omega
  have HAr:=Lh (HA1.o.over HBr.o);have HBA:=Lh HF.o.box.arr;have hzl:gz<w2.heap.size:=by have:=HS2.o;have:=HGB.o;omega
  have hzw:w.heap.size≤w2.heap.size:=by have:=HGZ.o;omega
  have HPe:Hid (pieceM R (blkM R f) l=.mk 2 0 (bareL ys)):=Lh (by rw [HPf.o,HF.o.bare,HXL.o,List.take_length]);obtain⟨y0,y1,y2,sy⟩:=HAr.o.c3;obtain⟨b0,b1,b2,sb⟩:=HBA.o.c3;have k0:=HAr.o.free 0;have k1:=HAr.o.free 1;have k2:=HAr.o.free 2;go_wp2_with fail;refine bodyPost_ret (v:=.agg #[.int .i64 2,.int .i64 0,.slice p ys.length c]) (results_arr rowBlk rfl (((HAr.o.set 0 _).set 1 _).set 2 _) rfl rfl) rfl ?_;refine⟨2,0,.slice p ys.length c,ys,rfl,?_,?_,?_⟩
  · rw [HPe.o];unfold bareB;rfl
  · exact pc_store (gz:=gz) (HF.o.sub.block 2 0) (gtr (gtr (gsc wr 0 _) (gsc _ 1 _)) (gsc _ 2 _)) hzl hzw
  unfold Be;rw [HGZ.o];exact(((HBz.o.setCell (p:=⟨gz,0,none⟩) (Nat.le_refl _) (.int .i64 2)).setCell (p:=⟨gz,1,none⟩) (Nat.le_refl _) (.int .i64 0)).setCell (p:=⟨gz,2,none⟩) (Nat.le_refl _) (.slice p ys.length c))
 obtain⟨x,hx⟩:=gol hlt;obtain⟨bx,ox,rfl,sbx,hcx⟩:=HCX.o.resolve_left (by omega);have x0':=(hcx j x hx wr HBr.o).2 0 _ rfl;have x0:wr.cell? ⟨bx,ox+j,none⟩=some x.v:=by simpa using x0'
 have sx:=(hcx j x hx wr HBr.o).1;have hxm:=List.mem_of_getElem? hx;have hxr:=(HRW.o x hxm).over HBr.o;obtain⟨q1,q2,ev,n3,n4,hcs⟩:=irow_at hxr;unfold maxLen at n4;have hsm:x.s∈sidesM R l:=by rw [← HBR.o];exact List.mem_map.2 ⟨x,hxm,rfl⟩
 have HSm:=Lh hsm;have HSl:=Lh (sides_less HNs.o hsm);have HX1:=Lh hx;have HCS:=Lh hcs;rw [ev] at x0;clear x0' hcx hx hxm hxr hsm hcs ev;go_wp2;go_loopw [9,11,37] (fun v9 _ v37 wq=>ThRel wr l x.s v9 v37 wq) (fun _ _ v37 _=>x.s.length - (intOf v37).toNat)
 case atStart=>exact⟨0,none,0,Nat.zero_le _,rfl,by rw [List.take_zero,things_nil];rfl,Lh (by rw [List.take_zero,things_nil];exact gown_nil _ _),Below.refl _ _⟩
 obtain⟨q,p9,c9,hq,rfl,rfl,HT,hbq⟩:=hrel;rename World=>wq;have HBq:=Lh hbq
 by_cases hlt2:q<x.s.length
 ·
  obtain⟨u,hu⟩:=gol hlt2;obtain⟨bs,os,rfl,sbs,hcs2⟩:=HCS.o.resolve_left (by omega);obtain⟨su,u0⟩:=hcs2 q u hu wq hbq;have hul:=sides_lt HSm.o (List.mem_of_getElem? hu);obtain⟨y,hy⟩:=gol hul;obtain⟨bl,ol,rfl,sbl,hcl⟩:=HC.o.resolve_left (by omega);have hbw:Below gz w wq:=by exact bov HBz.o (by have:=HBr.o.size;have:=HGB.o;omega) hbq
  obtain⟨sy2,l0⟩:=hcl u y hy wq hbw;have HTs:=Lh (things_step hu hy);have hN:(thingsM l (x.s.take q)).length+1≤1099511627776:=by have:=HSl.o;unfold thingsM;rw [List.length_map,List.length_take];omega
  have hB3:=hbq.size;clear hcs2 hu hy hcl hbw;go_wp2_with (at_builtin;refine apD slIntI rfl _ _ rfl wr.heap.size _ _ (drf _) 1 _ _ _ HT.o rfl rfl rfl rfl hN (by decide) hB3 ?_;intro v9 w9 ho9 hg9);obtain⟨p8,c8,e8,hO8⟩:=iown_more ho9;subst e8;go_roundw
  case rel=>exact⟨q+1,p8,c8,hlt2,by go_num,by rw [HTs.o],Lh (by rw [HTs.o];exact hO8),bgr HBq.o hB3 HT.o hg9⟩
  simp [intOf];omega
 obtain rfl:q=x.s.length:=by omega
 rw [List.take_length] at HT;rw [List.take_length];have HBxq:=Lh (HF.o.box.over hbq);have HSq:=Lh (HF.o.sub.over hbq);have HBxa:=Lh HBxq.o.arr;have hbw:Below gz w wq:=by exact bov HBz.o (by have:=HBr.o.size;have:=HGB.o;omega) hbq
 have HOc:Hid (∀ W,Be wq W→Calls Tryz.prog 53 #[.pointer (some ⟨r,0,none⟩),.slice p9 (thingsM l x.s).length c9] W (OfRes W (blkM R f (thingsM l x.s)))):=Lh fun W hW=>HOf.o _ _ W (by unfold thingsM;rw [List.length_map];have:=HSl.o;omega) (by unfold thingsM;rw [List.length_map];have:=HSl.o;omega) (things_le HL.o HSm.o) ((HR.o.over (by unfold Be;rw [HGZ.o];exact hbw)).over hW) (HT.o.over hW).row;have hxj:(sidesM R l)[j]? = some x.s:=by rw [← HBR.o,List.getElem?_map,HX1.o];rfl
 have HXj:=Lh hxj;have hzl:gb<w2.heap.size:=by have:=HS2.o;omega
 have hwl:=HF.o.world.size;have hN6:ys.length+1≤1099511627776:=by have:=bare_len HF.o.bare;have:=sides_few R l;have:=HXL.o;omega
 have HN6:=Lh hN6;clear hxj hbw hN6;obtain⟨b0,b1,b2,sb⟩:=HBxa.o.c3;go_upto_region 16 with fail;refine wlo 7 fun hcur=>?_;repeat(first|refine lxq ?_|(refine lxl rfl ?_;go_wp2_with (first|(go_at_call 53;(with_reducible refine(HOc.o _ hcur).mono ?_);rintro e w5 ⟨v5,ys5,rfl,hx5,hr5,hb5⟩;(obtain⟨p5,c5,e5,_,_,_⟩:=hx5.own.row.at encBl_len);subst e5;have HX5:Hid (BX w5 wq.heap.size (.slice p5 ys5.length c5) ys5):=Lh hx5;have HR5:=Lh hr5;replace hcur:=bvo hcur hb5;clear hx5 hr5 hb5));refine⟨iov (by first|exact hcur|exact hcur.alloc hcur.size _),?_⟩))
 refine lxe ?_;have HB5:=Lh hcur;have HO5:=Lh ((HSq.o.over hcur).own);have hB6:w2.heap.size≤w5.heap.size:=by have:=hcur.size;have:=HBq.o.size;omega
 clear hcur;go_wp2_with (at_builtin;(first|refine wpList_append_newK slBlk rfl _ _ rfl w2.heap.size #[.int .i64 4,.int .i64 0,.slice p5 ys5.length c5] 183 (drf _) 1 _ _ _ HO5.o rfl rfl rfl rfl HN6.o (by decide) hB6 ?_|refine wpList_append_newK slBlk rfl _ _ rfl w2.heap.size #[.int .i64 4,.int .i64 0,.slice p5 ys5.length c5] 183 (ddw _) 1 _ _ _ HO5.o rfl rfl rfl rfl HN6.o (by decide) hB6 ?_);intro v6 w6 ho6 hg6 hv6;(obtain⟨p6,c6,e6,_,_,_⟩:=(GOwn.row (GOwn.snoc (x:=BlL.mk 4 0 (.slice p5 ys5.length c5) ys5) ho6)).at encBl_len);(have e7:v6=.slice p6 (ys.length+1) c6:=by rw [e6,List.length_append];rfl);clear e6;subst e7;have HST:=Lh (HF.o.step HBq.o HB5.o HX5.o HR5.o HXj.o hzl hwl ho6 hg6 hv6);have HB6:=Lh ((HBxq.o.over HB5.o).kept hg6 (fun e=>by have:=gown_low HSq.o.own e.symm;omega));have t2:=HB6.o.arr.k 2 rfl;have t3:=HB6.o.arr.free 2;have st:=HB6.o.arr.lt;clear ho6 hg6 hv6);go_roundw
 case rel=>exact⟨j+1,p6,c6,_,hlt,by go_num,HST⟩
 simp [intOf];omega
end
variable{l:List Nat}{k:Nat}
def BoRel(w:World)(R:List (Nat × Nat))(f:Nat)(l:List Nat)(v5 v6 v10:Value)(wr:World):Prop:=∃(i at':Nat) (xs:List BlL),i≤l.length∧v10=.int .i64 i∧v6=.int .i64 at'∧Hid (BX wr w.heap.size v5 xs)∧Hid (bareL xs=(piecesTo R l i).1.map (pieceM R (blkM R f)))∧at'=(piecesTo R l i).2∧Be w wr
theorem pieces_zero(R:List (Nat × Nat))(l:List Nat):piecesTo R l 0=([],0):=rfl
theorem pieces_yes{R:List (Nat × Nat)}(h:k+1=l.length∨cutB R l (k+1)=true):piecesTo R l (k+1)=((piecesTo R l k).1++[(l.take (k+1)).drop (piecesTo R l k).2],k+1):=by rw [piecesTo];exact if_pos h
theorem pieces_no{R:List (Nat × Nat)}(h:¬ (k+1=l.length∨cutB R l (k+1)=true)):piecesTo R l (k+1)=piecesTo R l k:=by rw [piecesTo];exact if_neg h
theorem pieces_few(R:List (Nat × Nat))(l:List Nat):∀ k,(piecesTo R l k).1.length≤k
 | 0=>Nat.le_refl _
 | k+1=>by
  have:=pieces_few R l k
  by_cases h:k+1=l.length∨cutB R l (k+1)=true
  · rw [pieces_yes h];simp;omega
  rw [pieces_no h];omega
theorem of_snoc{w w3 w6 wr:World}{v v6:Value}{xs ys3:List BlL}{k3 n3:Int}{s3:Value}{lo:Nat}(h:BX w3 w.heap.size v xs)(hx:BIn (fun b=>lo≤b∧b<w3.heap.size) w3 (.mk k3 n3 s3 ys3))(hlo:wr.heap.size≤lo)(hw:w.heap.size≤wr.heap.size)(hv:∀ b,v.ownBlock=some b→b<wr.heap.size)
  (ho:w6.ownsRow w.heap.size 183 3 v6 (xs.length+1) (xs.flatMap encBl++[.int .i64 k3,.int .i64 n3,s3])) (hg:w3.grownBy w6 v.ownBlock) (hk:v6.ownBlock=v.ownBlock∨∃ k,v6.ownBlock=some k∧w3.heap.size≤k):BX w6 w.heap.size v6 (xs++[.mk k3 n3 s3 ys3]):=
 BX.snoc h (BIn.weak hx fun b hb=>⟨hb.1,hb.2,fun e=>by have:=hv b e.symm;omega⟩) (by omega) (GOwn.snoc (x:=BlL.mk k3 n3 s3 ys3) ho) hg hk
theorem row_part{w:World}{b off n cap at':Nat}(h:GRow encI 1 w (.slice (some ⟨b,off,none⟩) n cap) l)(h1:at'<k)(h2:k≤l.length):GRow encI 1 w (.slice (some ⟨b,off+at',none⟩) (k - at') (cap - at')) ((l.take k).drop at'):=by
 obtain⟨a,c2,e,z1,z2,hc⟩:=irow_at h;obtain⟨rfl,rfl,rfl⟩:=Value.slice.inj e;have h9:=slice_row (l:=at') (h:=k) h (by omega) h2;unfold sliced at h9;rw [if_neg (by omega)] at h9;unfold GRow;have e1:((l.take k).drop at').length=k - at':=by rw [List.length_drop,List.length_take];omega
 have e2:((l.take k).drop at').flatMap encI=((l.flatMap encI).drop (at'*1)).take ((k - at')*1):=by rw [encI_map,encI_map,Nat.mul_one,Nat.mul_one,← List.map_drop,← List.map_take,← List.map_drop,← List.map_take];congr 2;rw [List.drop_take]
 rw [e1,e2];simpa [Addr.add_lit] using h9
attribute [local irreducible] piecesTo pieceM blkM cutB
theorem bof_any(r n:Nat)(R:List (Nat × Nat)):∀(f:Nat) (l:List Nat) (v:Value) (w:World),l.length<f→l.length≤1000000→(∀ i∈l,i≤1000000)→RelAt w r n R→GRow encI 1 w v l →
  Calls Tryz.prog 53 #[.pointer (some ⟨r,0,none⟩),v] w (OfRes w (blkM R f l))
 | 0,l,v,w,hf,_,_,_,_=>absurd hf (Nat.not_lt_zero _)
 | f+1,l,v,w,hf,hn,hl,h,hv=>by
  have hih:=bof_any r n R f;obtain⟨a,cap,rfl,h1,h2,hc⟩:=irow_at hv;have HV:=Lh hv;unfold maxLen at h2;have HR:=Lh h;have HL:=Lh hl;have HIH:Hid (∀(t:List Nat) (tv:Value) (W:World),t.length<f→t.length≤1000000→(∀ i∈t,i≤1000000)→RelAt W r n R→GRow encI 1 W tv t→Calls Tryz.prog 53 #[.pointer (some ⟨r,0,none⟩),tv] W (OfRes W (blkM R f t))):=Lh fun t tv W ht h0 h1 h2 h3=>hih t tv W ht h0 h1 h2 h3;have HBK:Hid (blkM R (f+1) l=(piecesTo R l l.length).1.map (pieceM R (blkM R f))):=Lh (by rw [blkM];rfl);clear hv h hl hih;go_enter Tryz.func53,Tryz.ntmps53;go_wp2;go_loopw [5,6,10] (fun v5 v6 v10 wr=>BoRel w R f l v5 v6 v10 wr) (fun _ _ v10 _=>l.length - (intOf v10).toNat)
  case atStart=>exact⟨0,0,[],by omega,rfl,rfl,Lh (bx_nil _ _),Lh (by rw [pieces_zero];rfl),by rw [pieces_zero],Below.refl _ _⟩
  obtain⟨i,at',xs,hi,rfl,rfl,HX,HBa,hat,hbl⟩:=hrel;rename World=>wr;have HBr:=Lh hbl;have hai:at'≤i:=by rw [hat];exact pieces_at R l i
  have HAt:=Lh hat;have HXl:Hid (xs.length≤i):=Lh (by have h9:=congrArg List.length HBa.o;rw [bareL_map,List.length_map,List.length_map] at h9;rw [h9];exact pieces_few R l i);clear hat hbl
  by_cases hlt:i<l.length
  rotate_left
  · obtain rfl:i=l.length:=(by omega);go_wp2;go_ret;exact⟨_,xs,rfl,HX.o,by rw [HBa.o,HBK.o],HBr.o⟩
  obtain⟨b,off,rfl,sb,hcb⟩:=hc.resolve_left (by omega);clear hcb;have HPc:Hid (∀(tv:Value) (W:World),Be w W→GRow encI 1 W tv ((l.take (i+1)).drop at')→Calls Tryz.prog 106 #[.pointer (some ⟨r,0,none⟩),tv] W (PcRes W (pieceM R (blkM R f) ((l.take (i+1)).drop at')))):=Lh fun tv W hW hr=>bpiece_any f r n R tv _ W (HR.o.over hW) hr (fun z hz=>HL.o z (List.mem_of_mem_take (List.mem_of_mem_drop hz))) (by rw [List.length_drop,List.length_take];omega) (by rw [List.length_drop,List.length_take];omega) (by rw [List.length_drop,List.length_take];omega) HIH.o
  by_cases hlast:i+1=l.length
  ·
   have HPt:=Lh (pieces_yes (R:=R) (.inl hlast));have g1:((i:Int)+1 == (l.length:Int))=true:=(by rw [beq_iff_eq];omega);have HSlr:Hid (GRow encI 1 wr (.slice (some ⟨b,off+at',none⟩) (i+1 - at') (cap - at')) ((l.take (i+1)).drop at')):=Lh (row_part (HV.o.over HBr.o) (by omega) (by omega));rw [← HAt.o] at HPt;clear hlast;go_wp2_with fail
   with_reducible refine(HPc.o _ _ HBr.o HSlr.o).mono ?_
   rintro e w3 ⟨k3,n3,s3,ys3,rfl,hb3,hi3,hbw3⟩;have hs3:=(bin_mk.1 hi3).2.1;have HB3:=Lh hb3;have HI3:=Lh hi3;have HX3:=Lh (HX.o.over hbw3);have HBw3:=Lh (bvo HBr.o hbw3);have hN:xs.length+1≤1099511627776:=(by have:=HXl.o;omega);have hB3:=HBw3.o.size;have hBr3:=hbw3.size;have HO3:=Lh HX3.o.own;clear hb3 hi3 hbw3;go_wp2_with (at_builtin;(first|refine wpList_append_newK slBlk rfl _ _ rfl w.heap.size #[.int .i64 k3,.int .i64 n3,s3] 183 (drf _) 1 _ _ _ HO3.o rfl rfl rfl (by simp [hs3];exact⟨rfl,rfl⟩) hN (by decide) hB3 ?_|refine wpList_append_newK slBlk rfl _ _ rfl w.heap.size #[.int .i64 k3,.int .i64 n3,s3] 183 (ddw _) 1 _ _ _ HO3.o rfl rfl rfl (by simp [hs3];exact⟨rfl,rfl⟩) hN (by decide) hB3 ?_);intro v6 w6 ho6 hg6 hv6);go_roundw
   case rel=>exact⟨i+1,i+1,xs++[.mk k3 n3 s3 ys3],hlt,by go_num,by go_num,Lh (of_snoc HX3.o HI3.o (Nat.le_refl _) HBr.o.size (fun b hb=>gown_size HX.o.own hb) ho6 hg6 hv6),Lh (by rw [bareL_snoc,HBa.o,HB3.o,HPt.o,List.map_append];rfl),by rw [HPt.o],bgr HBw3.o hB3 HO3.o hg6⟩
   simp [intOf];omega
  have g1:((i:Int)+1 == (l.length:Int))=false:=by rw [beq_eq_false_iff_ne];omega
  cases hcu:cutB R l (i+1) with
  | true =>
   have HPt:=Lh (pieces_yes (R:=R) (.inr hcu));have HSlr:Hid (GRow encI 1 wr (.slice (some ⟨b,off+at',none⟩) (i+1 - at') (cap - at')) ((l.take (i+1)).drop at')):=Lh (row_part (HV.o.over HBr.o) (by omega) (by omega));have HCu:=Lh hcu;rw [← HAt.o] at HPt;clear hcu;go_wp2_with fail;refine(bcut_any r n R _ l (i+1) _ (HR.o.over HBr.o) (HV.o.over HBr.o) HL.o (by omega)).mono ?_;rw [HCu.o];rintro e w2 ⟨rfl,hw⟩;obtain rfl:=hw.symm;go_wp2_with fail
   with_reducible refine(HPc.o _ _ HBr.o HSlr.o).mono ?_
   rintro e w3 ⟨k3,n3,s3,ys3,rfl,hb3,hi3,hbw3⟩;have hs3:=(bin_mk.1 hi3).2.1;have HB3:=Lh hb3;have HI3:=Lh hi3;have HX3:=Lh (HX.o.over hbw3);have HBw3:=Lh (bvo HBr.o hbw3);have hN:xs.length+1≤1099511627776:=(by have:=HXl.o;omega);have hB3:=HBw3.o.size;have hBr3:=hbw3.size;have HO3:=Lh HX3.o.own;clear hb3 hi3 hbw3;go_wp2_with (at_builtin;(first|refine wpList_append_newK slBlk rfl _ _ rfl w.heap.size #[.int .i64 k3,.int .i64 n3,s3] 183 (drf _) 1 _ _ _ HO3.o rfl rfl rfl (by simp [hs3];exact⟨rfl,rfl⟩) hN (by decide) hB3 ?_|refine wpList_append_newK slBlk rfl _ _ rfl w.heap.size #[.int .i64 k3,.int .i64 n3,s3] 183 (ddw _) 1 _ _ _ HO3.o rfl rfl rfl (by simp [hs3];exact⟨rfl,rfl⟩) hN (by decide) hB3 ?_);intro v6 w6 ho6 hg6 hv6);go_roundw
   case rel=>exact⟨i+1,i+1,xs++[.mk k3 n3 s3 ys3],hlt,by go_num,by go_num,Lh (of_snoc HX3.o HI3.o (Nat.le_refl _) HBr.o.size (fun b hb=>gown_size HX.o.own hb) ho6 hg6 hv6),Lh (by rw [bareL_snoc,HBa.o,HB3.o,HPt.o,List.map_append];rfl),by rw [HPt.o],bgr HBw3.o hB3 HO3.o hg6⟩
   simp [intOf];omega
  | false =>
   have HPt:=Lh (pieces_no (R:=R) (k:=i) (fun q=>q.elim hlast (fun q=>by rw [hcu] at q;cases q)));have HCu:=Lh hcu;clear hcu;go_wp2_with fail;refine(bcut_any r n R _ l (i+1) _ (HR.o.over HBr.o) (HV.o.over HBr.o) HL.o (by omega)).mono ?_;rw [HCu.o];rintro e w2 ⟨rfl,hw⟩;obtain rfl:=hw.symm;go_wp2;go_roundw
   case rel=>exact⟨i+1,at',xs,hlt,by go_num,rfl,HX,Lh (by rw [HPt.o];exact HBa.o),by rw [HPt.o];exact HAt.o,HBr.o⟩
   simp [intOf];omega
end Go.Proofs.YtanfebljiblhbaaGreatDoor
namespace Go.Proofs.YtanfebljiblhbaaGreatDoor
open Go Go.RowKit
variable{k n:Int}
mutual
def oddB:BlkM→Nat
 | .mk k _ s=>(if k=2∨k=3 then 1 else 0)+(if k=1 then 0 else oddL s)
def oddL:List BlkM→Nat
 | []=>0
 | b :: l=>oddB b+oddL l
end
theorem oddL_nil:oddL []=0:=by rw [oddL]
theorem oddL_cons(b:BlkM)(l:List BlkM):oddL (b :: l)=oddB b+oddL l:=by rw [oddL]
theorem oddB_mk(k n:Int)(s:List BlkM):oddB (.mk k n s)=(if k=2∨k=3 then 1 else 0)+(if k=1 then 0 else oddL s):=by rw [oddB]
theorem odd_1(n:Int)(s:List BlkM):oddB (.mk 1 n s)=0:=by rw [oddB_mk];simp
theorem odd_23{s:List BlkM}(h:k=2∨k=3):oddB (.mk k n s)=1+oddL s:=by rw [oddB_mk,if_pos h,if_neg (by omega)]
theorem odd_0{s:List BlkM}(h1:k≠1)(h2:¬ (k=2∨k=3)):oddB (.mk k n s)=oddL s:=by rw [oddB_mk,if_neg h2,if_neg h1,Nat.zero_add]
theorem bins_mem{A:Nat→Prop}{w:World}:∀ {l:List BlL} {x:BlL},BIns A w l→x∈l→BIn A w x
 | [],x,_,hx=>absurd hx (List.not_mem_nil)
 | b :: l,x,h,hx=>by
  unfold BIns at h;rcases List.mem_cons.1 hx with rfl|hx
  · exact h.1
  exact bins_mem h.2 hx
theorem size_sub{xs:List BlL}{sv:Value}{s:List BlL}(h:BlL.mk k n sv s∈xs):SizeOf.sizeOf s<SizeOf.sizeOf xs:=by
 have h1:=List.sizeOf_lt_of_mem h;have h2:SizeOf.sizeOf s<SizeOf.sizeOf (BlL.mk k n sv s):=by simp;omega
 omega
theorem bareL_nil:bareL []=[]:=by rw [bareL]
attribute [local irreducible] oddL oddB bareL bareB
end Go.Proofs.YtanfebljiblhbaaGreatDoor
namespace Go.Proofs.YtanfebljiblhbaaGreatDoor
open Go Go.RowKit
section
theorem near_lead2(R:List (Nat × Nat))(i j:Nat):nearB R i j=(leadB R i j || leadB R j i):=rfl
def RcRel(R:List (Nat × Nat))(l:List Nat)(n:Nat)(w:World)(v:Value)(wr:World):Prop:=∃ k:Nat,k≤n∧v=.int .i64 k∧Hid (∀ i x:Nat,i<k→l[i]? = some x→∀ y∈l.drop n,befB R x y=true)∧Be w wr
def Rc2Rel(R:List (Nat × Nat))(l:List Nat)(n x:Nat)(w:World)(v:Value)(wr:World):Prop:=∃ k:Nat,n≤k∧k≤l.length∧v=.int .i64 k∧Hid (∀ j y:Nat,n+j<k→l[n+j]? = some y→befB R x y=true)∧Be w wr
attribute [local irreducible] cutB befB leadB nearB
theorem rcut22_any(n:Nat)(rv:Value)(R:List (Nat × Nat))(v:Value)(l:List Nat)(k:Nat)(w:World)(h:RRel w n rv R)(hv:GRow encI 1 w v l)(hk:k<l.length) :
  Calls Tryz.prog 94 #[rrV n rv,v,.int .i64 k] w fun e w'=>e=.returned (.bool (cutB R l k))∧Be w w':=by
 obtain⟨ra,rc,rfl,r1,r2,_⟩:=prow_at h.row;unfold maxLen at r2;obtain⟨a,cap,rfl,h1,h2,hc⟩:=irow_at hv;unfold maxLen at h2;obtain⟨b,off,rfl,sb,hcb⟩:=hc.resolve_left (by omega);have HC:=Lh hcb;have HH:=Lh (h.over (bnew (w:=w) (.cells #[.int .i64 n,.slice ra R.length rc] 103)));have HG:=Lh (anw w #[.int .i64 n,.slice ra R.length rc] 103);have HB:=Lh (bnew (w:=w) (.cells #[.int .i64 n,.slice ra R.length rc] 103));clear hv hcb h hc;go_enter Tryz.func94,Tryz.ntmps94;go_upto_region 1 with fail;generalize w.alloc (.cells #[.int .i64 n,.slice ra R.length rc] 103)=w0 at *;go_wp2;go_loopw [7] (fun v7 wr=>RcRel R l k w0 v7 wr) (fun v7 _=>k - (intOf v7).toNat)
 case atStart=>exact⟨0,by omega,rfl,Lh (fun i x hi=>absurd hi (by omega)),Below.refl _ _⟩
 obtain⟨i,hi,rfl,HK,hbl⟩:=hrel;rename World=>wr;have HBl:=Lh hbl
 by_cases hlt:i<k
 rotate_left
 ·
  obtain rfl:i=k:=by omega
  have HN:=Lh (cut_yes (by omega) HK.o);go_wp2;go_ret;exact⟨rvb HN.o,bvo HB.o HBl.o⟩
 obtain⟨x,hx⟩:=gol (xs:=l) (i:=i) (by omega);have HX:=Lh hx;clear hx hbl;go_wp2;go_loopw [8] (fun v8 wq=>Rc2Rel R l k x wr v8 wq) (fun v8 _=>l.length - (intOf v8).toNat)
 case atStart=>exact⟨k,Nat.le_refl _,by omega,rfl,Lh (fun j y hj=>absurd hj (by omega)),Below.refl _ _⟩
 obtain⟨j,hj0,hj,rfl,HJ,hbq⟩:=hrel;rename World=>wq;have HBq:=Lh (bvo HBl.o hbq);have HBqr:=Lh hbq
 by_cases hlt2:j<l.length
 rotate_left
 ·
  obtain rfl:j=l.length:=by omega
  have HK2:=Lh (ct_next HK.o HX.o fun q y hq hy=>HJ.o q y (by omega) hy);go_wp2;go_roundw
  case rel=>exact⟨i+1,by omega,by go_num,HK2,HBq.o⟩
  simp [intOf];omega
 obtain⟨y,hy⟩:=gol hlt2;have hbw:=bvo HB.o HBq.o;have x0:=(HC.o i x HX.o wq hbw).2;obtain⟨sbq,y0⟩:=HC.o j y hy wq hbw;have HG1:=Lh (HG.o.over HBq.o);obtain⟨g0,g1,sg⟩:=HG1.o.c2;have HY:=Lh hy;have HBf:=Lh (r8bef_any n (.slice ra R.length rc) R x y wq.drew ((HH.o.over HBq.o).over (Below.refl _ _).drew));unfold rrV at HBf;clear hy hbw hbq;cases hf:befB R x y with
 | true =>
  rw [hf] at HBf;have HJ2:Hid (∀ q z:Nat,k+q<j+1→l[k+q]? = some z→befB R x z=true):=Lh fun q z hq hz=>by
   rcases Nat.lt_or_ge (k+q) j with h1|h1
   · exact HJ.o q z h1 hz
   obtain rfl:k+q=j:=(by omega);rw [HY.o] at hz;cases hz;exact hf
  clear hf;go_wp2_with fail;refine wlo 11 fun hcur=>?_;repeat(first|refine lxq ?_|(refine lxl rfl ?_;go_wp2_with (first|(go_at_call 156;(with_reducible refine(HBf.o).mono ?_);rintro e wf ⟨rfl,hb⟩;have hcur:=bvo hcur hb));refine⟨iov hcur,?_⟩))
  refine lxe ?_;go_wp2;go_roundw
  case rel=>exact⟨j+1,by omega,hlt2,by go_num,HJ2,bvo HBqr.o hcur⟩
  simp [intOf];omega
 | false =>
  rw [hf] at HBf;have HN:Hid (cutB R l k=false):=Lh (cut_no (i:=i) (j:=j - k) hlt HX.o (by rw [show k+(j - k)=j by omega];exact HY.o) hf);clear hf;go_wp2_with fail;refine wlo 11 fun hcur=>?_;repeat(first|refine lxq ?_|(refine lxl rfl ?_;go_wp2_with (first|(go_at_call 156;(with_reducible refine(HBf.o).mono ?_);rintro e wf ⟨rfl,hb⟩;have hcur:=bvo hcur hb));refine⟨iov hcur,?_⟩))
  refine lxe ?_;go_wp2;go_ret;exact⟨rvb HN.o,bvo HB.o (bvo HBq.o hcur)⟩
theorem rnear_any(n:Nat)(rv:Value)(R:List (Nat × Nat))(i j:Nat)(w:World)(h:RRel w n rv R) :
  Calls Tryz.prog 213 #[rrV n rv,.int .i64 i,.int .i64 j] w fun e w'=>e=.returned (.bool (nearB R i j))∧Be w w':=by
 obtain⟨ra,rc,rfl,r1,r2,_⟩:=prow_at h.row;unfold maxLen at r2;have HN:=Lh (near_lead2 R i j);have HH:=Lh (h.over (bnew (w:=w) (.cells #[.int .i64 n,.slice ra R.length rc] 103)));have HG:=Lh (anw w #[.int .i64 n,.slice ra R.length rc] 103);have HB:=Lh (bnew (w:=w) (.cells #[.int .i64 n,.slice ra R.length rc] 103));clear h;cases ha:leadB R i j with
 | true =>have HN2:Hid (nearB R i j=true):=Lh (by rw [HN.o,ha];rfl);have HA:=Lh ha;clear ha;go_enter Tryz.func213,Tryz.ntmps213;go_upto_region 1 with fail;generalize w.alloc (.cells #[.int .i64 n,.slice ra R.length rc] 103)=w0 at *;obtain⟨g0,g1,sg⟩:=HG.o.c2;go_wp2_with fail;refine(r8has_any n (.slice ra R.length rc) R i j _ HH.o).mono ?_;rw [HA.o];rintro e w1 ⟨rfl,hb1⟩;have HB1:=Lh (bvo HB.o hb1);clear hb1;go_wp2;go_ret;exact⟨rvb HN2.o,HB1.o⟩
 | false =>have HN2:Hid (nearB R i j=leadB R j i):=Lh (by rw [HN.o,ha];rfl);have HA:=Lh ha;clear ha;go_enter Tryz.func213,Tryz.ntmps213;go_upto_region 1 with fail;generalize w.alloc (.cells #[.int .i64 n,.slice ra R.length rc] 103)=w0 at *;obtain⟨g0,g1,sg⟩:=HG.o.c2;go_wp2_with fail;refine(r8has_any n (.slice ra R.length rc) R i j _ HH.o).mono ?_;rw [HA.o];rintro e w1 ⟨rfl,hb1⟩;have HB1:=Lh (bvo HB.o hb1);have HH1:=Lh (HH.o.over hb1);have HG1:=Lh (HG.o.over hb1);clear hb1 g0 g1 sg;obtain⟨g0,g1,sg⟩:=HG1.o.c2;go_wp2_with fail;refine(r8has_any n (.slice ra R.length rc) R j i _ HH1.o).mono ?_;rintro e w2 ⟨rfl,hb2⟩;have HB2:=Lh (bvo HB1.o hb2);clear hb2;go_wp2;go_ret;exact⟨rvb HN2.o,HB2.o⟩
end
section
variable{ms ms0:List Bool}{at' i k:Nat}
variable {R : List (Nat × Nat)} {l : List Nat}
def onB(ms:List Bool)(q:Nat):Bool:=ms.getD q false
theorem onB_set(hk:k<ms.length)(q:Nat):onB (ms.set k true) q=if q=k then true else onB ms q:=by
 unfold onB;rw [List.getD_eq_getElem?_getD,List.getD_eq_getElem?_getD,List.getElem?_set]
 by_cases h:k=q
 · subst h;rw [if_pos rfl,if_pos rfl,if_pos hk];rfl
 rw [if_neg h,if_neg (fun e=>h e.symm)]
structure Pss (R:List (Nat × Nat)) (l:List Nat) (at':Nat) (ms0:List Bool) (i k:Nat) (ms:List Bool):Prop where
 len:ms.length=l.length
 len0:ms0.length=l.length
 keep:∀ q,onB ms0 q=true→onB ms q=true
 near:∀ q,onB ms q=true→Near R l at' q
 done:∀ i' k',(i'<i∨(i'=i∧k'<k))→k'<l.length→onB ms0 i'=true→nearB R (l.getD i' 0) (l.getD k' 0)=true→onB ms k'=true
theorem pss_start(hl:ms.length=l.length)(hn:∀ q,onB ms q=true→Near R l at' q):Pss R l at' ms 0 0 ms:=
 ⟨hl,hl,fun _ h=>h,hn,fun i' k' h=>by omega⟩
theorem pss_yes(h:Pss R l at' ms0 i k ms)(hi:onB ms i=true)(hk:k<l.length)(hn:nearB R (l.getD i 0) (l.getD k 0)=true):Pss R l at' ms0 i (k+1) (ms.set k true):=by
 have hk2:k<ms.length:=by rw [h.len];exact hk
 refine⟨by rw [List.length_set];exact h.len,h.len0,fun q hq => ?_,fun q hq => ?_,fun i' k' h1 h2 h3 h4 => ?_⟩
 ·
  rw [onB_set hk2];split
  · rfl
  exact h.keep q hq
 ·
  rw [onB_set hk2] at hq;split at hq
  · rename_i e;subst e;exact .more (h.near i hi) hk hn
  exact h.near q hq
 rw [onB_set hk2];split
 · rfl
 rename_i hne;exact h.done i' k' (by omega) h2 h3 h4
theorem pss_no(h:Pss R l at' ms0 i k ms)(hi:onB ms i=false∨nearB R (l.getD i 0) (l.getD k 0)=false):Pss R l at' ms0 i (k+1) ms:=by
 refine⟨h.len,h.len0,h.keep,h.near,fun i' k' h1 h2 h3 h4 => ?_⟩
 by_cases he:i'=i∧k'=k
 ·
  obtain⟨rfl,rfl⟩:=he;rcases hi with hi|hi
  · rw [h.keep _ h3] at hi;cases hi
  rw [h4] at hi;cases hi
 exact h.done i' k' (by omega) h2 h3 h4
theorem pss_next(h:Pss R l at' ms0 i l.length ms):Pss R l at' ms0 (i+1) 0 ms:=
 ⟨h.len,h.len0,h.keep,h.near,fun i' k' h1 h2 h3 h4=>h.done i' k' (by omega) h2 h3 h4⟩
def Shut(R:List (Nat × Nat))(l:List Nat)(ms:List Bool):Prop:=∀ i k,i<l.length→k<l.length→onB ms i=true→nearB R (l.getD i 0) (l.getD k 0)=true→onB ms k=true
theorem shut_all(h:Shut R l ms)(h0:onB ms at'=true){q:Nat}(hn:Near R l at' q):onB ms q=true:=by
 induction hn with
 | self _=>exact h0
 | @more k j h1 h2 h3 ih=>exact h k j h1.right h2 ih h3
def onN(ms:List Bool):Nat:=ms.countP id
theorem count_le:∀ {a b:List Bool},a.length=b.length→(∀ q,onB a q=true→onB b q=true)→onN a≤onN b
 | [],[],_,_=>Nat.le_refl _
 | [],_ :: _,h,_=>by simp at h
 | _ :: _,[],h,_=>by simp at h
 | x :: a,y :: b,h,hq=>by
  have ih:=count_le (a:=a) (b:=b) (by simpa using h) fun q hh=>by have:=hq (q+1) (by unfold onB at *;simpa using hh);unfold onB at *;simpa using this
  have h0:=hq 0;unfold onB at h0;unfold onN at *;rw [List.countP_cons,List.countP_cons];cases x <;> cases y <;> simp at * <;> omega
theorem count_lt:∀ {a b:List Bool} {k:Nat},a.length=b.length→(∀ q,onB a q=true→onB b q=true)→onB a k=false→onB b k=true→onN a+1≤onN b
 | [],[],k,_,_,_,h=>by unfold onB at h;simp at h
 | [],_ :: _,_,h,_,_,_=>by simp at h
 | _ :: _,[],_,h,_,_,_=>by simp at h
 | x :: a,y :: b,0,h,hq,h1,h2=>by
  have ih:=count_le (a:=a) (b:=b) (by simpa using h) fun q hh=>by have:=hq (q+1) (by unfold onB at *;simpa using hh);unfold onB at *;simpa using this
  unfold onB at h1 h2;unfold onN at *;rw [List.countP_cons,List.countP_cons];simp at h1 h2;subst h1;subst h2;simp;omega
 | x :: a,y :: b,k+1,h,hq,h1,h2=>by have ih:=count_lt (a:=a) (b:=b) (k:=k) (by simpa using h) (fun q hh=>by have:=hq (q+1) (by unfold onB at *;simpa using hh);unfold onB at *;simpa using this) (by unfold onB at *;simpa using h1) (by unfold onB at *;simpa using h2);have h0:=hq 0;unfold onB at h0;unfold onN at *;rw [List.countP_cons,List.countP_cons];cases x <;> cases y <;> simp at * <;> omega
def Psd(R:List (Nat × Nat))(l:List Nat)(at' p:Nat)(ms:List Bool):Prop:=ms.length=l.length∧onB ms at'=true∧(∀ q,onB ms q=true→Near R l at' q)∧(Shut R l ms∨p+1≤onN ms)
theorem psd_step{p:Nat}(h0:Psd R l at' p ms0)(h:Pss R l at' ms0 l.length 0 ms):Psd R l at' (p+1) ms:=by
 obtain⟨a1,a2,a3,a4⟩:=h0;refine⟨h.len,h.keep _ a2,h.near,?_⟩
 by_cases hs:Shut R l ms0
 · exact .inl fun i k hi hk h1 h2=>h.keep _ (shut_all hs a2 (.more (h.near i h1) hk h2))
 refine .inr ?_;have h4:=a4.resolve_left hs;unfold Shut at hs;obtain⟨i,hi⟩:=Classical.not_forall.1 hs;obtain⟨k,hk⟩:=Classical.not_forall.1 hi;obtain⟨b1,hk⟩:=Classical.not_imp.1 hk;obtain⟨b2,hk⟩:=Classical.not_imp.1 hk;obtain⟨b3,hk⟩:=Classical.not_imp.1 hk;obtain⟨b4,hk⟩:=Classical.not_imp.1 hk;have hlt:=count_lt (a:=ms0) (b:=ms) (k:=k) (by rw [h.len0,h.len]) h.keep (by simpa using hk) (h.done i k (.inl b1) b2 b3 b4);omega
theorem psd_end(h:Psd R l at' l.length ms)(q:Nat):onB ms q=true↔Near R l at' q:=by
 obtain⟨a1,a2,a3,a4⟩:=h;refine⟨a3 q,fun hn => ?_⟩;rcases a4 with a4|a4
 · exact shut_all a4 a2 hn
 have:onN ms≤ms.length:=List.countP_le_length;omega
theorem psd_start(h:at'<l.length):Psd R l at' 0 ((List.replicate l.length false).set at' true):=by
 have hk:at'<(List.replicate l.length false).length:=by simpa using h
 have hz:∀ q,onB (List.replicate l.length false) q=false:=fun q=>by unfold onB;rw [List.getD_eq_getElem?_getD,List.getElem?_replicate];split <;> rfl
 refine⟨by simp,by rw [onB_set hk,if_pos rfl],fun q hq => ?_,.inr ?_⟩
 ·
  rw [onB_set hk] at hq;split at hq
  · rename_i e;rw [e];exact .self h
  rw [hz] at hq;cases hq
 have:=count_lt (a:=List.replicate l.length false) (b:=(List.replicate l.length false).set at' true) (k:=at') (by simp) (fun q hq=>by rw [hz] at hq;cases hq) (hz _) (by rw [onB_set hk,if_pos rfl]);omega
theorem on_side(h:Psd R l at' l.length ms):(List.range l.length).filter (onB ms)=sideM R l at':=by unfold sideM;refine List.filter_congr fun q _ => ?_;rw [Bool.eq_iff_iff,psd_end h,nearD_iff]
end
section
variable{ms:List Bool}
def boolV(ms:List Bool):List Value:=ms.map .bool
theorem boolV_get{k:Nat}(h:k<ms.length):(boolV ms)[k]? = some (.bool (onB ms k)):=by unfold boolV onB;rw [List.getElem?_map,List.getD_eq_getElem?_getD,List.getElem?_eq_getElem h];rfl
theorem boolV_set(ms:List Bool)(k:Nat)(b:Bool):(boolV ms).set k (.bool b)=boolV (ms.set k b):=by unfold boolV;rw [List.map_set]
theorem boolV_zero(n:Nat):boolV (List.replicate n false)=List.replicate n (.bool false):=by unfold boolV;rw [List.map_replicate]
theorem slzBoolR:SlZ Tryz.prog 273 4 (.bool false) 1:=slZ_of Tryz.underlying273 (by kernel_rfl) rfl
structure RsAt (wr w:World) (gR gB:Nat) (cs:List Value) (ms:List Bool):Prop where
 box:ArrT wr gR 103 cs
 arr:ArrT wr gB 4 (boolV ms)
 world:Be w wr
theorem RsAt.over{wr w' w:World}{gR gB:Nat}{cs:List Value}(h:RsAt wr w gR gB cs ms)(hb:Be wr w'):RsAt w' w gR gB cs ms:=⟨h.box.over hb,h.arr.over hb,bvo h.world hb⟩
theorem RsAt.on{wr w:World}{gR gB:Nat}{cs:List Value}(h:RsAt wr w gR gB cs ms)(hg:w.heap.size≤gB)(k:Nat):RsAt (wr.setCell ⟨gB,k,none⟩ (.bool true)) w gR gB cs (ms.set k true):=
 ⟨h.box.set_other (h.box.ne_type h.arr (by decide)) _,by have:=h.arr.set k (.bool true);rwa [boolV_set] at this,h.world.setCell hg _⟩
def Rs1(R:List (Nat × Nat))(l:List Nat)(at':Nat)(w:World)(gR gB:Nat)(cs:List Value)(v8:Value)(wr:World):Prop:=∃(p:Nat) (ms:List Bool),p≤l.length∧v8=.int .i64 p∧Hid (RsAt wr w gR gB cs ms)∧Hid (Psd R l at' p ms)
def Rs2(R:List (Nat × Nat))(l:List Nat)(at':Nat)(w:World)(gR gB:Nat)(cs:List Value)(ms0:List Bool)(v9:Value)(wr:World):Prop:=∃(i:Nat) (ms:List Bool),i≤l.length∧v9=.int .i64 i∧Hid (RsAt wr w gR gB cs ms)∧Hid (Pss R l at' ms0 i 0 ms)
def Rs3(R:List (Nat × Nat))(l:List Nat)(at':Nat)(w:World)(gR gB:Nat)(cs:List Value)(ms0:List Bool)(i:Nat)(v10:Value)(wr:World):Prop:=∃(k:Nat) (ms:List Bool),k≤l.length∧v10=.int .i64 k∧Hid (RsAt wr w gR gB cs ms)∧Hid (Pss R l at' ms0 i k ms)
def Rs4(w w1:World)(l:List Nat)(gB:Nat)(ms:List Bool)(v11 v12:Value)(wr:World):Prop:=∃ j:Nat,j≤l.length∧v12=.int .i64 j∧Hid (GOwn encI 1 3 wr w1.heap.size v11 ((List.range j).filter (onB ms)))∧Hid (Be w1 wr)
attribute [local irreducible] sideM nearB leadB onB boolV
theorem rside_any(n:Nat)(rv:Value)(R:List (Nat × Nat))(v:Value)(l:List Nat)(at':Nat)(w:World)(h:RRel w n rv R)(hv:GRow encI 1 w v l)(hn:l.length≤1000000)(hat:at'<l.length) :
  Calls Tryz.prog 157 #[rrV n rv,v,.int .i64 at'] w (OwnRes encI 1 3 w (sideM R l at')):=by
 obtain⟨ra,rc,rfl,r1,r2,_⟩:=prow_at h.row;unfold maxLen at r2;obtain⟨a,cap,rfl,h1,h2,hc⟩:=irow_at hv;unfold maxLen at h2;obtain⟨b,off,rfl,sb,hcb⟩:=hc.resolve_left (by omega);obtain⟨m,hmm⟩:∃ m,m=l.length:=⟨_,rfl⟩;have HC:=Lh hcb;have HH:=Lh h;have HZ:=Lh (boolV_zero m);have HG:=Lh (arrT_new w [.int .i64 n,.slice ra R.length rc] 103);have HB:=Lh (bnew (w:=w) (.cells #[.int .i64 n,.slice ra R.length rc] 103));have hq:1*m≤281474976710656:=by omega
 have hmx:m≤maxLen:=by unfold maxLen;omega
 rw [← hmm] at h1 hn hat ⊢;have HM:=Lh hmm;clear hv hcb h hc hmm;go_enter Tryz.func157,Tryz.ntmps157;go_upto_region 1 with fail;generalize w.alloc (.cells #[.int .i64 n,.slice ra R.length rc] 103)=w0 at *;try unfold Be at *
 generalize hgR:w.heap.size=gR at *;have HGR:=Lh hgR;clear hgR;have hw0s:=HB.o.size;go_upto_region 2 with(at_make;refine wpList_make_zeros slzBoolR rfl _ _ rfl w0.heap.size m _ rfl rfl rfl hq hmx (Nat.le_refl _) ?_;intro w1 ho1 hg1)
 have HB1:=Lh (grown_over' hg1 (fun g hg=>by cases hg));obtain⟨hA,_⟩:=own_full ho1;obtain⟨gB,hgB⟩:∃ g,g=w0.heap.size:=⟨_,rfl⟩;rw [← hgB] at hA ⊢;rw [← HZ.o] at hA;have HA:=Lh (show RsAt w1 w gR gB _ (List.replicate m false) from⟨HG.o.over HB1.o,hA,by (try unfold Be);rw [HGR.o];exact bov HB.o (by have:=HGR.o;omega) HB1.o⟩);have hgl:w.heap.size≤gB:=by have:=HGR.o;omega
 have a0:=HA.o.arr.arr.cell (boolV_get (ms:=List.replicate m false) (k:=at') (by rw [List.length_replicate];exact hat));have a1:=HA.o.arr.arr.free at';have as':=HA.o.arr.arr.lt;have HA2:=Lh (HA.o.on hgl at');clear hA ho1 hg1 hgB;go_upto_region 3 with fail;generalize w1.setCell ⟨gB,at',none⟩ (.bool true)=w2 at *;clear a0 a1 as';have HP0:Hid (Psd R l at' 0 ((List.replicate m false).set at' true)):=Lh (by rw [HM.o];exact psd_start (by rw [← HM.o];exact hat));go_wp2;go_loopw [8] (fun v8 wr=>Rs1 R l at' w gR gB [.int .i64 n,.slice ra R.length rc] v8 wr) (fun v8 _=>m - (intOf v8).toNat)
 case atStart=>exact⟨0,_,Nat.zero_le _,rfl,HA2,HP0⟩
 obtain⟨p,ms0,hp,rfl,HR1,HP⟩:=hrel;rename World=>wr;rw [← HM.o] at hp
 by_cases hlt:p<m
 rotate_left
 ·
  obtain rfl:p=m:=by omega
  have HSd:Hid ((List.range p).filter (onB ms0)=sideM R l at'):=Lh (by have:=HP.o;rw [HM.o] at this ⊢;exact on_side this);have HLn:Hid (ms0.length=p):=Lh (by rw [HP.o.1,HM.o]);go_wp2;go_loopw [11,12] (fun v11 v12 wq=>Rs4 w wr l gB ms0 v11 v12 wq) (fun _ v12 _=>p - (intOf v12).toNat)
  case atStart=>exact⟨0,Nat.zero_le _,rfl,Lh (gown_nil _ _),Below.refl _ _⟩
  obtain⟨j,hj,rfl,HO,hbl⟩:=hrel;rename World=>wq;rw [← HM.o] at hj;have HBl:=Lh hbl
  by_cases hlt2:j<p
  ·
   have d0:=(HR1.o.arr.over hbl).arr.cell (boolV_get (ms:=ms0) (k:=j) (by rw [HLn.o];exact hlt2));have sd:=(HR1.o.arr.over hbl).arr.lt;have hjl:j<l.length:=(by rw [← HM.o];exact hlt2);cases hon:onB ms0 j with
   | false =>
    rw [hon] at d0;have HO2:Hid (GOwn encI 1 3 wq wr.heap.size u11 ((List.range (j+1)).filter (onB ms0))):=Lh (by rw [List.range_succ,List.filter_append,List.filter_cons_of_neg (by rw [hon];decide),List.filter_nil,List.append_nil];exact HO.o);clear hon hbl;go_wp2;go_roundw
    case rel=>exact⟨j+1,hjl,by go_num,HO2,HBl.o⟩
    simp [intOf];omega
   | true =>
    rw [hon] at d0;have HFi:Hid ((List.range (j+1)).filter (onB ms0)=(List.range j).filter (onB ms0)++[j]):=Lh (by rw [List.range_succ,List.filter_append,List.filter_cons_of_pos hon,List.filter_nil]);have hN:((List.range j).filter (onB ms0)).length+1≤1099511627776:=(by have:=List.length_filter_le (onB ms0) (List.range j);rw [List.length_range] at this;omega);have hB3:=hbl.size;clear hon hbl;go_wp2_with (at_builtin;refine apD slIntI rfl _ _ rfl wr.heap.size _ _ (drf _) 1 _ _ _ HO.o rfl rfl rfl rfl hN (by decide) hB3 ?_;intro v9 w9 ho9 hg9);go_roundw
    case rel=>exact⟨j+1,hjl,by go_num,Lh (by rw [HFi.o];exact GOwn.snoc ho9),bgr HBl.o hB3 HO.o hg9⟩
    simp [intOf];omega
  obtain rfl:j=p:=by omega
  have HE:=HO.o;rw [HSd.o] at HE;have HE2:=Lh (HE.base HR1.o.world.size);clear HE hbl;go_wp2;go_ret;exact⟨_,rfl,HE2.o,bvo HR1.o.world HBl.o⟩
 go_wp2;go_loopw [9] (fun v9 wq=>Rs2 R l at' w gR gB [.int .i64 n,.slice ra R.length rc] ms0 v9 wq) (fun v9 _=>m - (intOf v9).toNat)
 case atStart=>exact⟨0,ms0,Nat.zero_le _,rfl,HR1,Lh (pss_start HP.o.1 HP.o.2.2.1)⟩
 obtain⟨i,ms,hi,rfl,HR2,HQ⟩:=hrel;rename World=>wq;rw [← HM.o] at hi
 by_cases hlt2:i<m
 rotate_left
 ·
  obtain rfl:i=m:=by omega
  have HP2:Hid (Psd R l at' (p+1) ms):=Lh (psd_step HP.o (by have:=HQ.o;rwa [HM.o] at this));go_wp2;go_roundw
  case rel=>exact⟨p+1,ms,by rw [← HM.o];exact hlt,by go_num,HR2,HP2⟩
  simp [intOf];omega
 go_wp2;go_loopw [10] (fun v10 wp=>Rs3 R l at' w gR gB [.int .i64 n,.slice ra R.length rc] ms0 i v10 wp) (fun v10 _=>m - (intOf v10).toNat)
 case atStart=>exact⟨0,ms,Nat.zero_le _,rfl,HR2,HQ⟩
 obtain⟨k,mk,hk,rfl,HR3,HT⟩:=hrel;rename World=>wp;rw [← HM.o] at hk
 by_cases hlt3:k<m
 rotate_left
 ·
  obtain rfl:k=m:=by omega
  have HT2:Hid (Pss R l at' ms0 (i+1) 0 mk):=Lh (pss_next (by have:=HT.o;rwa [HM.o] at this));go_wp2;go_roundw
  case rel=>exact⟨i+1,mk,by rw [← HM.o];exact hlt2,by go_num,HR3,HT2⟩
  simp [intOf];omega
 have hkl:k<l.length:=by rw [← HM.o];exact hlt3
 have hil:i<l.length:=by rw [← HM.o];exact hlt2
 have hml:=HT.o.len;obtain⟨xi,hxi⟩:=gol hil;obtain⟨xk,hxk⟩:=gol hkl;have hgi:l.getD i 0=xi:=by rw [List.getD_eq_getElem?_getD,hxi];rfl
 have hgk:l.getD k 0=xk:=by rw [List.getD_eq_getElem?_getD,hxk];rfl
 have hbw:Below gR w wp:=by rw [← HGR.o];exact HR3.o.world
 obtain⟨sl0,l0⟩:=HC.o i xi hxi wp hbw;have l1:=(HC.o k xk hxk wp hbw).2;have d0:=HR3.o.arr.arr.cell (boolV_get (ms:=mk) (k:=i) (by rw [hml];exact hil));have sd:=HR3.o.arr.arr.lt;obtain⟨g0,g1,sg⟩:=HR3.o.box.arr.c2;have HNr:=Lh (rnear_any n (.slice ra R.length rc) R xi xk wp.drew ((HH.o.over (by (try unfold Be);rw [HGR.o];exact hbw)).over (Below.refl _ _).drew));unfold rrV at HNr;have hnn:nearB R (l.getD i 0) (l.getD k 0)=nearB R xi xk:=by rw [hgi,hgk]
 have HNn:=Lh hnn;clear hxi hxk hgi hgk hbw hml hnn;cases hmi:onB mk i with
 | false =>
  have HT2:Hid (Pss R l at' ms0 i (k+1) mk):=Lh (pss_no HT.o (.inl hmi));rw [hmi] at d0;clear hmi HNr;go_upto_region 12 with fail;refine wlo 16 fun hcur=>?_;repeat refine lxq ?_
  refine lxe ?_;have HRn:=Lh (HR3.o.over hcur);go_wp2;go_roundw
  case rel=>exact⟨k+1,mk,hkl,by go_num,HRn,HT2⟩
  simp [intOf];omega
 | true =>
  have HMi:=Lh hmi;rw [hmi] at d0;clear hmi;cases hnr:nearB R xi xk with
  | false =>
   rw [hnr] at HNr;have HT2:Hid (Pss R l at' ms0 i (k+1) mk):=Lh (pss_no HT.o (.inr (by rw [HNn.o];exact hnr)));clear hnr;go_upto_region 12 with fail;refine wlo 16 fun hcur=>?_;(repeat(first|refine lxq ?_|(refine lxl rfl ?_;go_wp2_with (first|(go_at_call 213;(with_reducible refine(HNr.o).mono ?_);rintro e wf ⟨rfl,hb⟩;have hcur:=bvo hcur hb));refine⟨iov hcur,?_⟩)));refine lxe ?_;have HRn:=Lh (HR3.o.over hcur);go_wp2;go_roundw
   case rel=>exact⟨k+1,mk,hkl,by go_num,HRn,HT2⟩
   simp [intOf];omega
  | true =>
   rw [hnr] at HNr;have HT2:Hid (Pss R l at' ms0 i (k+1) (mk.set k true)):=Lh (pss_yes HT.o HMi.o hkl (by rw [HNn.o];exact hnr));clear hnr;go_upto_region 12 with fail;refine wlo 16 fun hcur=>?_;(repeat(first|refine lxq ?_|(refine lxl rfl ?_;go_wp2_with (first|(go_at_call 213;(with_reducible refine(HNr.o).mono ?_);rintro e wf ⟨rfl,hb⟩;have hcur:=bvo hcur hb));refine⟨iov hcur,?_⟩)));refine lxe ?_;have HRn:=Lh (HR3.o.over hcur);clear hcur d0 sd g0 g1 sg;have d0:=HRn.o.arr.arr.cell (boolV_get (ms:=mk) (k:=k) (by rw [HT.o.len];exact hkl));have d1:=HRn.o.arr.arr.free k;have sd:=HRn.o.arr.arr.lt;have HRo:=Lh (HRn.o.on hgl k);go_wp2;go_roundw
   case rel=>exact⟨k+1,mk.set k true,hkl,by go_num,HRo,HT2⟩
   simp [intOf];omega
end
section
variable{kd:Int}{R:List (Nat × Nat)}{xs ys:List BlL}{l:List Nat}{c gb i lo:Nat}{p:Option Addr}{v:Value}{w w2:World}
theorem rowBlkR:RowT Tryz.prog 175 3:=rowT_of Tryz.underlying175 rfl (by kernel_rfl)
theorem slBlkR:SlT Tryz.prog 108 175 3 40:=slT_of Tryz.underlying108 (by kernel_rfl) (by decide)
structure BXR (w:World) (lo:Nat) (v:Value) (xs:List BlL):Prop where
 own:GOwn encBl 3 175 w lo v xs
 ins:BIns (Fit lo w v.ownBlock) w xs
theorem bxr_nil(w:World)(lo:Nat):BXR w lo (.slice none 0 0) []:=⟨gown_nil _ _,bins_nil⟩
theorem BXR.over{w':World}(h:BXR w lo v xs)(hb:Be w w'):BXR w' lo v xs:=
 ⟨h.own.over hb,BIns.mono (fun b hb'=>⟨hb'.1,Nat.lt_of_lt_of_le hb'.2.1 hb.size,hb'.2.2⟩) (fun _ _ _ h=>h.over hb) xs h.ins⟩
theorem BXR.base{lo':Nat}(h:BXR w lo v xs)(hl:lo'≤lo):BXR w lo' v xs:=
 ⟨h.own.base hl,BIns.mono (fun b hb'=>⟨by have:=hb'.1;omega,hb'.2⟩) (fun _ _ _ h=>h) xs h.ins⟩
theorem BXR.snoc{w9:World}{lo0:Nat}{v9:Value}{x:BlL}(h:BXR w lo v xs)(hx:BIn (fun b=>lo0≤b∧b<w.heap.size∧some b≠v.ownBlock) w x)(hlo:lo≤lo0)
  (ho:GOwn encBl 3 175 w9 lo v9 (xs++[x])) (hg:w.grownBy w9 v.ownBlock) (hk:v9.ownBlock=v.ownBlock∨∃ k,v9.ownBlock=some k∧w.heap.size≤k):BXR w9 lo v9 (xs++[x]):=by
 have hne:∀ b,b<w.heap.size→some b≠v.ownBlock→some b≠v9.ownBlock:=by
  intro b hb hn e;rcases hk with h1|⟨k,h1,h2⟩
  · exact hn (e.trans h1)
  rw [h1] at e;cases e;omega
 refine⟨ho,bins_append ?_ (bins_one ?_)⟩
 · exact BIns.mono (fun b hb=>⟨hb.1,Nat.lt_of_lt_of_le hb.2.1 hg.size,hne b hb.2.1 hb.2.2⟩) (fun u us hu hr=>grow_keptB hg (fun b hb=>(hu b hb).2.2) hr) xs h.ins
 exact BIn.mono (fun b hb=>⟨by have:=hb.1;omega,Nat.lt_of_lt_of_le hb.2.1 hg.size,hne b hb.2.1 hb.2.2⟩) (fun u us hu hr=>grow_keptB hg (fun b hb=>(hu b hb).2.2) hr) x hx
theorem fitr_own(h:BXR w lo v xs){b:Nat}(hb:v.ownBlock=some b):lo≤b∧b<w.heap.size:=⟨gown_low h.own hb,gown_size h.own hb⟩
theorem BXR.block(h:BXR w lo v xs)(k n:Int):BIn (fun b=>lo≤b∧b<w.heap.size) w (.mk k n v xs):=by refine bin_mk.2 ⟨h.own.row,?_,fun b hb=>fitr_own h hb,BIns.mono (fun b hb=>⟨hb.1,hb.2.1⟩) (fun _ _ _ h=>h) xs h.ins⟩;rcases h.own.2 with⟨rfl,_⟩|⟨g,cap,cur,rfl,_⟩ <;> rfl
def RPcRes(w:World)(m:BlkM)(e:Ending)(w':World):Prop:=∃(k n:Int) (sv:Value) (s:List BlL),e=.returned (.agg #[.int .i64 k,.int .i64 n,sv])∧bareB (.mk k n sv s)=m∧BIn (fun b=>w.heap.size≤b∧b<w'.heap.size) w' (.mk k n sv s)∧Be w w'
def ROfRes(w:World)(ms:List BlkM)(e:Ending)(w':World):Prop:=∃ v xs,e=.returned v∧BXR w' w.heap.size v xs∧bareL xs=ms∧Be w w'
theorem BXR.set{k:Nat}{u:Value}(h:BXR w lo v xs)(hg:gb<lo):BXR (w.setCell ⟨gb,k,none⟩ u) lo v xs:=by refine⟨own_set h.own (fun q=>by have:=gown_low h.own q;omega) _ _,?_⟩;exact BIns.mono (fun b hb=>⟨hb.1,by have:=hb.2.1;simpa using this,hb.2.2⟩) (fun us ys hu hr=>grow_keptB (gsc (g:=gb) w k u) (fun b hb e=>by cases e;have:=(hu _ hb).1;omega) hr) xs h.ins
structure RkAt (wr w2:World) (gb:Nat) (kd:Int) (p:Option Addr) (c:Nat) (ys:List BlL):Prop where
 box:ArrT wr gb 175 [.int .i64 kd,.int .i64 0,.slice p ys.length c]
 sub:BXR wr w2.heap.size (.slice p ys.length c) ys
 world:w2.grownBy wr (some gb)
theorem RkAt.over{wr wq:World}(h:RkAt wr w2 gb kd p c ys)(hb:Be wr wq):RkAt wq w2 gb kd p c ys:=
 ⟨h.box.over hb,h.sub.over hb,grown_belowS h.world hb⟩
theorem RkAt.kind{wr:World}(h:RkAt wr w2 gb kd p c ys)(hg:gb<w2.heap.size)(k:Int):RkAt (wr.setCell ⟨gb,0,none⟩ (.int .i64 k)) w2 gb k p c ys:=
 ⟨h.box.set 0 _,h.sub.set hg,gtr h.world (gsc _ _ _)⟩
theorem RkAt.step{w5 w6:World}{p6:Option Addr}{c6:Nat}{x:BlL}
  (h:RkAt w5 w2 gb kd p c ys) (hx:BIn (fun b=>lo≤b∧b<w5.heap.size) w5 x) (hlo:∀ b,(Value.slice p ys.length c).ownBlock=some b→b<lo) (hw:w2.heap.size≤lo) (hgb:gb<w2.heap.size)
  (ho:w6.ownsRow w2.heap.size 175 3 (.slice p6 (ys.length+1) c6) (ys.length+1) (ys.flatMap encBl++encBl x)) (hg:w5.grownBy w6 (Value.slice p ys.length c).ownBlock)
  (hv:(Value.slice p6 (ys.length+1) c6).ownBlock=(Value.slice p ys.length c).ownBlock∨∃ k,(Value.slice p6 (ys.length+1) c6).ownBlock=some k∧w5.heap.size≤k) :
  RkAt (w6.setCell ⟨gb,2,none⟩ (.slice p6 (ys.length+1) c6)) w2 gb kd p6 c6 (ys++[x]):=by
 have hlen:(ys++[x]).length=ys.length+1:=by simp
 have hown:GOwn encBl 3 175 w6 w2.heap.size (.slice p6 (ys.length+1) c6) (ys++[x]):=GOwn.snoc (x:=x) ho;have hnew:=BXR.snoc h.sub (BIn.weak hx fun b hb=>⟨hb.1,hb.2,fun e=>by have:=hlo b e.symm;omega⟩) hw hown hg hv;have hbox:=h.box.kept hg (fun e=>by have:=gown_low h.sub.own e.symm;omega);refine⟨?_,?_,?_⟩
 · rw [hlen];exact hbox.set 2 _
 · rw [hlen];exact hnew.set hgb
 refine gtr ?_ (gsc _ _ _);cases hv2:(Value.slice p ys.length c).ownBlock with
 | none=>rw [hv2] at hg;exact⟨hg.os.trans h.world.os,hg.tape.trans h.world.tape,hg.output.trans h.world.output,Nat.le_trans h.world.size hg.size,fun q hq hn=>(hg.block q (Nat.lt_of_lt_of_le hq h.world.size) (by intro e;cases e)).trans (h.world.block q hq hn)⟩
 | some g2=>rw [hv2] at hg;exact grown_far h.world (gown_low h.sub.own hv2) hg
theorem head_zero(R:List (Nat × Nat))(l:List Nat):headB R l 0=true:=headB_iff.2 fun k hk=>absurd hk (by omega)
theorem knot_side(h:(sidesM R l).length=1)(hi:i<l.length):(sideM R l i).length=l.length:=by
 have h0:0<l.length:=by omega
 have hm0:0∈headsM R l l.length:=mem_heads.2 ⟨h0,head_zero R l⟩;have hall:∀ k,k<l.length→Near R l 0 k:=by
  intro k hk;obtain⟨q,q1,q2,q3⟩:=least_near k k k (Nat.le_refl _) (.self hk);have hmq:q∈headsM R l l.length:=mem_heads.2 ⟨by omega,q2⟩;have hl:(headsM R l l.length).length=1:=by unfold sidesM at h;rwa [List.length_map] at h
  obtain⟨z,hz⟩:=List.length_eq_one_iff.1 hl;rw [hz,List.mem_singleton] at hm0 hmq;rw [hm0,← hmq];exact q3
 unfold sideM;rw [List.filter_eq_self.2 (fun k hk=>nearD_iff.2 (((hall i hi).symm).trans (hall k (List.mem_range.1 hk)))),List.length_range]
theorem fork_side(h:(sidesM R l).length≠1)(hi:i<l.length):(sideM R l i).length≠l.length:=by
 intro e;have h0:0<l.length:=by omega
 have hs:sideM R l 0∈sidesM R l:=by unfold sidesM;exact List.mem_map.2 ⟨0,mem_heads.2 ⟨h0,head_zero R l⟩,rfl⟩
 have:=sides_less h hs;have:(sideM R l 0).length=l.length:=by unfold sideM;rw [List.filter_eq_self.2 (fun k hk=>nearD_iff.2 (((side_all e h0).symm).trans (side_all e (List.mem_range.1 hk)))),List.length_range]
 omega
theorem side_first{x:Nat}(hi:i<l.length)(h:(sideM R l i)[0]? = some x):x=i↔headB R l i=true:=by
 have hp:=side_pair R l i;have hx:x∈sideM R l i:=List.mem_of_getElem? h;have hle:∀ k,k∈sideM R l i→x≤k:=by
  intro k hk
  match hq:sideM R l i with
  | []=>rw [hq] at hk;exact absurd hk (List.not_mem_nil)
  | y :: r =>
   rw [hq] at h hk hp;have e:y=x:=(by simpa using h);subst e;rcases List.mem_cons.1 hk with rfl|hk
   · exact Nat.le_refl _
   exact Nat.le_of_lt ((List.pairwise_cons.1 hp).1 k hk)
 constructor
 · rintro rfl;refine headB_iff.2 fun k hk hn => ?_;have:=hle k (mem_sideM.2 hn.symm);omega
 intro hh;have h1:=hle i (mem_sideM.2 (.self hi));rcases Nat.lt_or_ge x i with h2|h2
 · exact absurd (mem_sideM.1 hx).symm (headB_iff.1 hh x h2)
 omega
theorem side_some(hi:i<l.length):0<(sideM R l i).length:=List.length_pos_of_mem (mem_sideM.2 (.self hi))
attribute [local irreducible] sidesM pieceM blkM thingsM sideM
theorem rpiece_one(n:Nat)(rv:Value)(R:List (Nat × Nat))(F:List Nat→List BlkM)(v:Value)(i:Nat)(w:World)(h:RRel w n rv R)(hv:GRow encI 1 w v [i]) :
  Calls Tryz.prog 95 #[rrV n rv,v] w (RPcRes w (pieceM R F [i])):=by
 obtain⟨ra,rc,rfl,r1,r2,_⟩:=prow_at h.row;unfold maxLen at r2;obtain⟨a,cap,rfl,h1,h2,hc⟩:=irow_at hv;unfold maxLen at h2;obtain⟨b,off,rfl,sb,hcb⟩:=hc.resolve_left (by simp);have HP:=Lh (piece_one R F i);have HC:=Lh hcb;clear hv hcb hc h;go_enter Tryz.func95,Tryz.ntmps95;go_upto_region 1 with fail;have HA0:=Lh (arrT_new w [.int .i64 n,.slice ra R.length rc] 103);have HB0:=Lh (bnew (w:=w) (.cells #[.int .i64 n,.slice ra R.length rc] 103));have HS0:Hid ((w.alloc (.cells #[.int .i64 n,.slice ra R.length rc] 103)).heap.size=w.heap.size+1):=Lh (by simp);have HS1:Hid (((w.alloc (.cells #[.int .i64 n,.slice ra R.length rc] 103)).alloc (.cells #[.int .i64 0,.int .i64 0,.slice none 0 0] 175)).heap.size=(w.alloc (.cells #[.int .i64 n,.slice ra R.length rc] 103)).heap.size+1):=Lh (by simp);generalize w.alloc (.cells #[.int .i64 n,.slice ra R.length rc] 103)=w0 at *;have HA:=Lh (arrT_new w0 [.int .i64 0,.int .i64 0,.slice none 0 0] 175);have HB1:=Lh (bnew (w:=w0) (.cells #[.int .i64 0,.int .i64 0,.slice none 0 0] 175));generalize w0.alloc (.cells #[.int .i64 0,.int .i64 0,.slice none 0 0] 175)=w1 at *;have HGr:=Lh (HA0.o.over HB1.o);have HBw:=Lh (bov HB0.o (by have:=HS0.o;omega) HB1.o);have hs0:=HS0.o;have hs1:=HS1.o;clear HA0 HB0 HB1 HS0 HS1;try rw [← hs0]
 try unfold Be at *
 generalize w0.heap.size=gz at *;try unfold Be at *
 generalize hgR:w.heap.size=gR at *;have HGR:=Lh hgR;have HZ1:Hid (w1.heap.size=gz+1):=Lh hs1;have HZ0:Hid (gz=gR+1):=Lh hs0;clear hs0 hs1 hgR;have HAa:=Lh HA.o.arr;obtain⟨sl,x0'⟩:=HC.o 0 i rfl w1 HBw.o;have x0:w1.cell? ⟨b,off,none⟩=some (.int .i64 i):=x0';clear x0';obtain⟨z0,z1,z2,sz⟩:=HAa.o.c3;have f0:=HAa.o.free 0;have f1:=HAa.o.free 1;have f2:=HAa.o.free 2;go_wp2_with fail;refine bodyPost_ret (v:=.agg #[.int .i64 1,.int .i64 i,.slice none 0 0]) (results_arr rowBlkR rfl (((HA.o.arr.set 0 _).set 1 _).set 2 _) rfl rfl) rfl ?_;refine⟨1,i,.slice none 0 0,[],rfl,(lineL_bare i).trans HP.o.symm,lineL_in _ _ i,?_⟩
 (try unfold Be);rw [HGR.o]
 have hgz:gR≤gz:=by have:=HZ0.o;omega
 exact(((HBw.o.setCell (p:=⟨gz,0,none⟩) hgz (.int .i64 1)).setCell (p:=⟨gz,1,none⟩) hgz (.int .i64 i)).setCell (p:=⟨gz,2,none⟩) hgz (.slice none 0 0))
end
section
def KnRel(w2:World)(gb:Nat)(l:List Nat)(v6:Value)(wr:World):Prop:=∃(j:Nat) (kd:Int) (p:Option Addr) (c:Nat) (ys:List BlL),j≤l.length∧v6=.int .i64 j∧Hid (0<j→kd=3)∧Hid (ys=(l.take j).map lineL)∧Hid (RkAt wr w2 gb kd p c ys)
def FrRel(w2:World)(gb:Nat)(R:List (Nat × Nat))(l:List Nat)(f:Nat)(v6:Value)(wr:World):Prop:=∃(j:Nat) (p:Option Addr) (c:Nat) (ys:List BlL),j≤l.length∧v6=.int .i64 j∧Hid (bareL ys=((headsM R l j).map (sideM R l)).map fun s=>.mk 4 0 (blkM R f (thingsM l s)))∧Hid (RkAt wr w2 gb 2 p c ys)
def ThRelR(wr:World)(l s:List Nat)(v8 v9:Value)(wq:World):Prop:=∃(q:Nat) (p:Option Addr) (c:Nat),q≤s.length∧v9=.int .i64 q∧v8=.slice p (thingsM l (s.take q)).length c∧Hid (GOwn encI 1 3 wq wr.heap.size (.slice p (thingsM l (s.take q)).length c) (thingsM l (s.take q)))∧Be wr wq
attribute [local irreducible] sidesM pieceM blkM thingsM sideM headsM
theorem rpiece_knot(n:Nat)(rv:Value)(R:List (Nat × Nat))(F:List Nat→List BlkM)(v:Value)(l:List Nat)(w:World)(h:RRel w n rv R)(hv:GRow encI 1 w v l)(hn:l.length≤1000000)(h0:0<l.length)(hl1:l.length≠1)(hk:(sidesM R l).length=1) :
  Calls Tryz.prog 95 #[rrV n rv,v] w (RPcRes w (pieceM R F l)):=by
 obtain⟨ra,rc,rfl,r1,r2,_⟩:=prow_at h.row;unfold maxLen at r2;obtain⟨a,cap,rfl,h1,h2,hc⟩:=irow_at hv;unfold maxLen at h2;obtain⟨b,off,rfl,sb,hcb⟩:=hc.resolve_left (by omega);have HC:=Lh hcb;have HV:=Lh hv;have HH:=Lh h;have g1:((l.length:Int) == 1)=false:=by rw [beq_eq_false_iff_ne];omega
 have HL0:Hid (0<l.length):=Lh h0;have H1:=Lh hl1;have HP:=Lh (piece_knot (F:=F) hl1 hk);have HKn:=Lh hk;clear hv hcb hc h hl1 hk;go_enter Tryz.func95,Tryz.ntmps95;go_upto_region 1 with fail;have HA0:=Lh (arrT_new w [.int .i64 n,.slice ra R.length rc] 103);have HB0:=Lh (bnew (w:=w) (.cells #[.int .i64 n,.slice ra R.length rc] 103));have HS0:Hid ((w.alloc (.cells #[.int .i64 n,.slice ra R.length rc] 103)).heap.size=w.heap.size+1):=Lh (by simp);have HS1:Hid (((w.alloc (.cells #[.int .i64 n,.slice ra R.length rc] 103)).alloc (.cells #[.int .i64 0,.int .i64 0,.slice none 0 0] 175)).heap.size=(w.alloc (.cells #[.int .i64 n,.slice ra R.length rc] 103)).heap.size+1):=Lh (by simp);generalize w.alloc (.cells #[.int .i64 n,.slice ra R.length rc] 103)=w0 at *;have HA:=Lh (arrT_new w0 [.int .i64 0,.int .i64 0,.slice none 0 0] 175);have HB1:=Lh (bnew (w:=w0) (.cells #[.int .i64 0,.int .i64 0,.slice none 0 0] 175));generalize w0.alloc (.cells #[.int .i64 0,.int .i64 0,.slice none 0 0] 175)=w1 at *;have HGr:=Lh (HA0.o.over HB1.o);have HBw:=Lh (bov HB0.o (by have:=HS0.o;omega) HB1.o);have hs0:=HS0.o;have hs1:=HS1.o;clear HA0 HB0 HB1 HS0 HS1;try rw [← hs0]
 try unfold Be at *
 generalize w0.heap.size=gz at *;try unfold Be at *
 generalize hgR:w.heap.size=gR at *;have HGR:=Lh hgR;have HZ1:Hid (w1.heap.size=gz+1):=Lh hs1;have HZ0:Hid (gz=gR+1):=Lh hs0;clear hs0 hs1 hgR;go_upto_region 4 with fail;have HBx:=Lh (arrT_new w1 [.int .i64 2,.int .i64 0,.slice none 0 0] 175);have HN1:=Lh (bnew (w:=w1) (.cells #[.int .i64 2,.int .i64 0,.slice none 0 0] 175));have HS2:Hid ((w1.alloc (.cells #[.int .i64 2,.int .i64 0,.slice none 0 0] 175)).heap.size=w1.heap.size+1):=Lh (by simp);generalize w1.alloc (.cells #[.int .i64 2,.int .i64 0,.slice none 0 0] 175)=w2 at *;try unfold Be at *
 generalize hgb:w1.heap.size=gb at *;have HGB:=Lh hgb;have HZ2:Hid (w2.heap.size=gb+1):=HS2;have hzl:gb<w2.heap.size:=by have:=HZ2.o;omega
 clear hgb;have HF0:Hid (RkAt w2 w2 gb 2 none 0 []):=Lh ⟨HBx.o,bxr_nil _ _,World.grownBy.refl _ _⟩;go_wp2;go_loopw [6,7] (fun v6 _ wr=>KnRel w2 gb l v6 wr) (fun v6 _ _=>l.length - (intOf v6).toNat)
 case atStart=>exact⟨0,2,none,0,[],Nat.zero_le _,rfl,Lh (fun h=>absurd h (by omega)),Lh (by rw [List.take_zero];rfl),HF0⟩
 obtain⟨j,kd,p,c,ys,hj,rfl,HKd,HYs,HK⟩:=hrel;rename World=>wr;have HBr:Hid (Be w1 wr):=Lh (by
  have h9:=HN1.o
  (try unfold Be);rw [HGB.o]
  exact h9.grown HK.o.world (by have:=HZ2.o;omega) (fun k hk=>by cases hk;exact Nat.le_refl _))
 have HBz:Hid (Below gR w wr):=Lh (bov HBw.o (by have:=HGB.o;have:=HZ1.o;have:=HZ0.o;omega) HBr.o);have HGq:=Lh ((HGr.o.over HBr.o).arr);have hwl:=HK.o.world.size
 by_cases hlt:j<l.length
 rotate_left
 ·
  obtain rfl:j=l.length:=by omega
  obtain rfl:=HKd.o HL0.o;have HAr:=Lh ((HA.o.over HBr.o).arr);have HBA:=Lh HK.o.box.arr;have hzg:gz<w2.heap.size:=by have:=HZ2.o;have:=HGB.o;have:=HZ1.o;omega
  have hzw:w.heap.size≤w2.heap.size:=by have:=HGR.o;have:=HZ0.o;omega
  have HPe:Hid (pieceM R F l=.mk 3 0 (bareL ys)):=Lh (by rw [HP.o,HYs.o,List.take_length,lines_bare]);have hgz:gR≤gz:=by have:=HZ0.o;omega
  obtain⟨y0,y1,y2,sy⟩:=HAr.o.c3;obtain⟨b0,b1,b2,sb⟩:=HBA.o.c3;have k0:=HAr.o.free 0;have k1:=HAr.o.free 1;have k2:=HAr.o.free 2;go_wp2_with fail;refine bodyPost_ret (v:=.agg #[.int .i64 3,.int .i64 0,.slice p ys.length c]) (results_arr rowBlkR rfl (((HAr.o.set 0 _).set 1 _).set 2 _) rfl rfl) rfl ?_;refine⟨3,0,.slice p ys.length c,ys,rfl,?_,?_,?_⟩
  · rw [HPe.o];unfold bareB;rfl
  · exact pc_store (gz:=gz) (HK.o.sub.block 3 0) (gtr (gtr (gsc wr 0 _) (gsc _ 1 _)) (gsc _ 2 _)) hzg hzw
  (try unfold Be);rw [HGR.o];exact(((HBz.o.setCell (p:=⟨gz,0,none⟩) hgz (.int .i64 3)).setCell (p:=⟨gz,1,none⟩) hgz (.int .i64 0)).setCell (p:=⟨gz,2,none⟩) hgz (.slice p ys.length c))
 obtain⟨x,hx⟩:=gol hlt;have HSu:=Lh (sm_succ hx);have HX:=Lh hx;have HFull:=Lh (knot_side HKn.o hlt);have HN6:Hid (ys.length+1≤1099511627776):=Lh (by rw [HYs.o,List.length_map,List.length_take];omega);have HSi:=Lh (rside_any n (.slice ra R.length rc) R _ l j _ (HH.o.over (by (try unfold Be);rw [HGR.o];exact HBz.o)) (HV.o.over (by (try unfold Be);rw [HGR.o];exact HBz.o)) hn hlt);unfold rrV at HSi;obtain⟨g0,g1,sg⟩:=HGq.o.c2;clear hx;go_wp2_with fail
 with_reducible refine(HSi.o).mono ?_
 rintro e wc ⟨sv,rfl,hos,hbs⟩;obtain⟨ps,cs',es,_,_,_⟩:=irow_at hos.row;rw [HFull.o] at es;subst es;have HBc:=Lh hbs;have HKc:=Lh (HK.o.over HBc.o);have HKa:=Lh HKc.o.box.arr;have HKk:=Lh (HKc.o.kind hzl 3);have HBk:Hid (Below gR w (wc.setCell ⟨gb,0,none⟩ (.int .i64 3))):=Lh ((bov HBz.o (by have:=HBz.o.size;have:=HGR.o;omega) HBc.o).setCell (by show gR≤gb;have:=HGB.o;have:=HZ1.o;have:=HZ0.o;omega) _);have HZk:Hid (wc.heap.size≤(wc.setCell ⟨gb,0,none⟩ (.int .i64 3)).heap.size):=Lh (by simp [World.setCell]);clear hos hbs g0 g1 sg;obtain⟨k0,k1,k2,sk⟩:=HKa.o.c3;have f0:=HKa.o.free 0;go_upto_region 10 with fail;generalize wc.setCell ⟨gb,0,none⟩ (.int .i64 3)=wk at *;clear k0 k1 k2 sk f0;obtain⟨sl,x0⟩:=HC.o j x HX.o wk HBk.o;have HKb:=Lh HKk.o.box.arr;obtain⟨k0,k1,k2,sk⟩:=HKb.o.c3;refine wlo 8 fun hcur=>?_;repeat(first|refine lxq ?_|(refine lxl rfl ?_;go_wp2_with (first|(fail));refine⟨iov (by first|exact hcur|exact hcur.alloc hcur.size _),?_⟩))
 refine lxe ?_;have HK5:=HKk;have HO5:=Lh HK5.o.sub.own;have hB6:w2.heap.size≤wk.heap.size:=Nat.le_trans hwl (Nat.le_trans HBc.o.size HZk.o);have hlo5:∀ b,(Value.slice p ys.length c).ownBlock=some b→b<wk.heap.size:=fun b hb=>gown_size HKk.o.sub.own hb;have hwl:=hB6;clear hcur;go_wp2_with (at_builtin;(first|refine wpList_append_newK slBlkR rfl _ _ rfl w2.heap.size #[.int .i64 1,.int .i64 x,.slice none 0 0] 175 (drf _) 1 _ _ _ HO5.o rfl rfl rfl rfl HN6.o (by decide) hB6 ?_|refine wpList_append_newK slBlkR rfl _ _ rfl w2.heap.size #[.int .i64 1,.int .i64 x,.slice none 0 0] 175 (ddw _) 1 _ _ _ HO5.o rfl rfl rfl rfl HN6.o (by decide) hB6 ?_);intro v6 w6 ho6 hg6 hv6;(obtain⟨p6,c6,e6,_,_,_⟩:=(GOwn.row (GOwn.snoc (x:=lineL x) ho6)).at encBl_len);(have e7:v6=.slice p6 (ys.length+1) c6:=by rw [e6,List.length_append];rfl);clear e6;subst e7;have HST:=Lh (HK5.o.step (x:=lineL x) (lineL_in _ _ x) hlo5 hwl hzl ho6 hg6 hv6);have HB6:=Lh (ArrT.arr (HK5.o.box.kept hg6 (fun e=>by have:=gown_low HK5.o.sub.own e.symm;omega)));have t2:=HB6.o.k 2 rfl;have t3:=HB6.o.free 2;have st:=HB6.o.lt;clear ho6 hg6 hv6);go_roundw
 case rel=>exact⟨j+1,3,p6,c6,ys++[lineL x],hlt,by go_num,Lh (fun _=>rfl),Lh (by rw [HYs.o,HSu.o]),HST⟩
 simp [intOf];omega
theorem rpiece_fork(f n:Nat)(rv:Value)(R:List (Nat × Nat))(v:Value)(l:List Nat)(w:World)(h:RRel w n rv R)(hv:GRow encI 1 w v l)(hn:l.length≤1000000)(h0:0<l.length)(hl1:l.length≠1)(hk:(sidesM R l).length≠1)(hf:l.length≤f)
  (hOf:∀(t:List Nat) (tv u:Value) (W:World),t.length<f→t.length≤1000000→RRel W n u R→GRow encI 1 W tv t→Calls Tryz.prog 46 #[rrV n u,tv] W (ROfRes W (blkM R f t))) :
  Calls Tryz.prog 95 #[rrV n rv,v] w (RPcRes w (pieceM R (blkM R f) l)):=by
 obtain⟨ra,rc,rfl,r1,r2,_⟩:=prow_at h.row;unfold maxLen at r2;obtain⟨a,cap,rfl,h1,h2,hc⟩:=irow_at hv;unfold maxLen at h2;obtain⟨b,off,rfl,sb,hcb⟩:=hc.resolve_left (by omega);have HC:=Lh hcb;have HV:=Lh hv;have HH:=Lh h;have g1:((l.length:Int) == 1)=false:=by rw [beq_eq_false_iff_ne];omega
 have HL0:Hid (0<l.length):=Lh h0;have H1:=Lh hl1;have HP:=Lh (piece_fork (F:=blkM R f) hl1 hk);have HFk:=Lh hk;have HOf:=Lh hOf;have HF:=Lh hf;clear hv hcb hc h hl1 hk hOf hf;go_enter Tryz.func95,Tryz.ntmps95;go_upto_region 1 with fail;have HA0:=Lh (arrT_new w [.int .i64 n,.slice ra R.length rc] 103);have HB0:=Lh (bnew (w:=w) (.cells #[.int .i64 n,.slice ra R.length rc] 103));have HS0:Hid ((w.alloc (.cells #[.int .i64 n,.slice ra R.length rc] 103)).heap.size=w.heap.size+1):=Lh (by simp);have HS1:Hid (((w.alloc (.cells #[.int .i64 n,.slice ra R.length rc] 103)).alloc (.cells #[.int .i64 0,.int .i64 0,.slice none 0 0] 175)).heap.size=(w.alloc (.cells #[.int .i64 n,.slice ra R.length rc] 103)).heap.size+1):=Lh (by simp);generalize w.alloc (.cells #[.int .i64 n,.slice ra R.length rc] 103)=w0 at *;have HA:=Lh (arrT_new w0 [.int .i64 0,.int .i64 0,.slice none 0 0] 175);have HB1:=Lh (bnew (w:=w0) (.cells #[.int .i64 0,.int .i64 0,.slice none 0 0] 175));generalize w0.alloc (.cells #[.int .i64 0,.int .i64 0,.slice none 0 0] 175)=w1 at *;have HGr:=Lh (HA0.o.over HB1.o);have HBw:=Lh (bov HB0.o (by have:=HS0.o;omega) HB1.o);have hs0:=HS0.o;have hs1:=HS1.o;clear HA0 HB0 HB1 HS0 HS1;try rw [← hs0]
 try unfold Be at *
 generalize w0.heap.size=gz at *;try unfold Be at *
 generalize hgR:w.heap.size=gR at *;have HGR:=Lh hgR;have HZ1:Hid (w1.heap.size=gz+1):=Lh hs1;have HZ0:Hid (gz=gR+1):=Lh hs0;clear hs0 hs1 hgR;go_upto_region 4 with fail;have HBx:=Lh (arrT_new w1 [.int .i64 2,.int .i64 0,.slice none 0 0] 175);have HN1:=Lh (bnew (w:=w1) (.cells #[.int .i64 2,.int .i64 0,.slice none 0 0] 175));have HS2:Hid ((w1.alloc (.cells #[.int .i64 2,.int .i64 0,.slice none 0 0] 175)).heap.size=w1.heap.size+1):=Lh (by simp);generalize w1.alloc (.cells #[.int .i64 2,.int .i64 0,.slice none 0 0] 175)=w2 at *;try unfold Be at *
 generalize hgb:w1.heap.size=gb at *;have HGB:=Lh hgb;have HZ2:Hid (w2.heap.size=gb+1):=HS2;have hzl:gb<w2.heap.size:=by have:=HZ2.o;omega
 clear hgb;have HF0:Hid (RkAt w2 w2 gb 2 none 0 []):=Lh ⟨HBx.o,bxr_nil _ _,World.grownBy.refl _ _⟩;go_wp2;go_loopw [6,7,8,9] (fun v6 _ _ _ wr=>FrRel w2 gb R l f v6 wr) (fun v6 _ _ _ _=>l.length - (intOf v6).toNat)
 case atStart=>exact⟨0,none,0,[],Nat.zero_le _,rfl,Lh (by unfold headsM;rfl),HF0⟩
 obtain⟨j,p,c,ys,hj,rfl,HBa,HK⟩:=hrel;rename World=>wr;have HBr:Hid (Be w1 wr):=Lh (by
  have h9:=HN1.o
  (try unfold Be);rw [HGB.o]
  exact h9.grown HK.o.world (by have:=HZ2.o;omega) (fun k hk=>by cases hk;exact Nat.le_refl _))
 have HBz:Hid (Below gR w wr):=Lh (bov HBw.o (by have:=HGB.o;have:=HZ1.o;have:=HZ0.o;omega) HBr.o);have HGq:=Lh ((HGr.o.over HBr.o).arr);have hwl:=HK.o.world.size
 by_cases hlt:j<l.length
 rotate_left
 ·
  obtain rfl:j=l.length:=by omega
  have HAr:=Lh ((HA.o.over HBr.o).arr);have HBA:=Lh HK.o.box.arr;have hzg:gz<w2.heap.size:=by have:=HZ2.o;have:=HGB.o;have:=HZ1.o;omega
  have hzw:w.heap.size≤w2.heap.size:=by have:=HGR.o;have:=HZ0.o;omega
  have HPe:Hid (pieceM R (blkM R f) l=.mk 2 0 (bareL ys)):=Lh (by rw [HP.o,HBa.o];unfold sidesM;rfl);have hgz:gR≤gz:=by have:=HZ0.o;omega
  obtain⟨y0,y1,y2,sy⟩:=HAr.o.c3;obtain⟨b0,b1,b2,sb⟩:=HBA.o.c3;have k0:=HAr.o.free 0;have k1:=HAr.o.free 1;have k2:=HAr.o.free 2;go_wp2_with fail;refine bodyPost_ret (v:=.agg #[.int .i64 2,.int .i64 0,.slice p ys.length c]) (results_arr rowBlkR rfl (((HAr.o.set 0 _).set 1 _).set 2 _) rfl rfl) rfl ?_;refine⟨2,0,.slice p ys.length c,ys,rfl,?_,?_,?_⟩
  · rw [HPe.o];unfold bareB;rfl
  · exact pc_store (gz:=gz) (HK.o.sub.block 2 0) (gtr (gtr (gsc wr 0 _) (gsc _ 1 _)) (gsc _ 2 _)) hzg hzw
  (try unfold Be);rw [HGR.o];exact(((HBz.o.setCell (p:=⟨gz,0,none⟩) hgz (.int .i64 2)).setCell (p:=⟨gz,1,none⟩) hgz (.int .i64 0)).setCell (p:=⟨gz,2,none⟩) hgz (.slice p ys.length c))
 have HFull:=Lh (fork_side HFk.o hlt);have HFew:=Lh (side_few (R:=R) (l:=l) (i:=j));have HPos:=Lh (side_some (R:=R) hlt);have HNm:Hid (∀ u,u∈sideM R l j→u<l.length):=Lh fun u hu=>(mem_sideM.1 hu).right;have HFi:Hid (∀ x,(sideM R l j)[0]? = some x→(x=j↔headB R l j=true)):=Lh fun x hx=>side_first hlt hx;have HHs:=Lh (heads_succ R l j);have HSi:=Lh (rside_any n (.slice ra R.length rc) R _ l j _ (HH.o.over (by (try unfold Be);rw [HGR.o];exact HBz.o)) (HV.o.over (by (try unfold Be);rw [HGR.o];exact HBz.o)) hn hlt);unfold rrV at HSi;obtain⟨g0,g1,sg⟩:=HGq.o.c2;go_wp2_with fail
 with_reducible refine(HSi.o).mono ?_
 rintro e wc ⟨sv,rfl,hos,hbs⟩;obtain⟨s,hs⟩:∃ s,s=sideM R l j:=⟨_,rfl⟩;have HS:=Lh hs;rw [← hs] at hos;obtain⟨ps,cs',rfl,z1,z2,hcs⟩:=irow_at hos.row;unfold maxLen at z2;have g2:((s.length:Int) == (l.length:Int))=false:=by rw [beq_eq_false_iff_ne];have:=HFull.o;rw [← hs] at this;omega
 have hsl:s.length<l.length:=by have:=HFull.o;have:=HFew.o;rw [← hs] at *;omega
 have hsp:0<s.length:=by have:=HPos.o;rw [← hs] at this;exact this
 obtain⟨bs,os,rfl,sbs,hcs2⟩:=hcs.resolve_left (by omega);obtain⟨x,hx⟩:=gol hsp;have HBc:=Lh hbs;have HBcz:Hid (Below gR w wc):=Lh (bov HBz.o (by have:=HBz.o.size;have:=HGR.o;omega) HBc.o);have HKc:=Lh (HK.o.over HBc.o);have HCS:=Lh hcs2;obtain⟨sx,y0'⟩:=hcs2 0 x hx wc (Below.refl _ _);have y0:wc.cell? ⟨bs,os,none⟩=some (.int .i64 x):=y0';have HX:=Lh (HFi.o x (by rw [← hs];exact hx));have hxl:x<l.length:=HNm.o x (by rw [← hs];exact List.mem_of_getElem? hx);have hwc:w2.heap.size≤wc.heap.size:=Nat.le_trans hwl HBc.o.size;clear hos hbs g0 g1 sg hs y0' hcs2 hcs hx;cases hh:headB R l j with
 | false =>
  have hne:x≠j:=fun e=>by rw [HX.o.1 e] at hh;cases hh
  have g3:((x:Int) != (j:Int))=true:=by rw [bne_iff_ne];omega
  have HBa2:Hid (bareL ys=((headsM R l (j+1)).map (sideM R l)).map fun s=>.mk 4 0 (blkM R f (thingsM l s))):=Lh (by rw [HHs.o,hh];simpa using HBa.o);clear hh hne;go_wp2;go_roundw
  case rel=>exact⟨j+1,p,c,ys,hlt,by go_num,HBa2,HKc⟩
  simp [intOf];omega
 | true =>
  obtain rfl:x=j:=HX.o.2 hh;have HBs:Hid (((headsM R l (x+1)).map (sideM R l)).map (fun s=>BlkM.mk 4 0 (blkM R f (thingsM l s)))=((headsM R l x).map (sideM R l)).map (fun s=>.mk 4 0 (blkM R f (thingsM l s)))++[.mk 4 0 (blkM R f (thingsM l s))]):=Lh (by rw [HHs.o,hh,HS.o];simp);have HN6:Hid (ys.length+1≤1099511627776):=Lh (by have h9:=congrArg List.length HBa.o;rw [bareL_map,List.length_map,List.length_map,List.length_map] at h9;have:=heads_few R l x;omega);clear hh;go_wp2;go_loopw [8,9] (fun v8 v9 wq=>ThRelR wc l s v8 v9 wq) (fun _ v9 _=>s.length - (intOf v9).toNat)
  case atStart=>exact⟨0,none,0,Nat.zero_le _,rfl,by rw [List.take_zero,things_nil];rfl,Lh (by rw [List.take_zero,things_nil];exact gown_nil _ _),Below.refl _ _⟩
  obtain⟨q,p9,c9,hq,rfl,rfl,HT,hbq⟩:=hrel;rename World=>wq;have HBq:=Lh hbq
  by_cases hlt2:q<s.length
  ·
   obtain⟨u,hu⟩:=gol hlt2;obtain⟨su,u0⟩:=HCS.o q u hu wq hbq;have hul:=HNm.o u (by rw [← HS.o];exact List.mem_of_getElem? hu);obtain⟨y,hy⟩:=gol hul;obtain⟨sy2,l0⟩:=HC.o u y hy wq (bov HBcz.o (by have:=HBcz.o.size;have:=HGR.o;omega) hbq);have HTs:=Lh (things_step hu hy);have hN:(thingsM l (s.take q)).length+1≤1099511627776:=(by unfold thingsM;rw [List.length_map,List.length_take];omega);have hB3:=hbq.size;clear hu hy y0 sx;go_wp2_with (at_builtin;refine apD slIntI rfl _ _ rfl wc.heap.size _ _ (drf _) 1 _ _ _ HT.o rfl rfl rfl rfl hN (by decide) hB3 ?_;intro v9 w9 ho9 hg9);obtain⟨p8,c8,e8,hO8⟩:=iown_more ho9;subst e8;go_roundw
   case rel=>exact⟨q+1,p8,c8,hlt2,by go_num,by rw [HTs.o],Lh (by rw [HTs.o];exact hO8),bgr HBq.o hB3 HT.o hg9⟩
   simp [intOf];omega
  obtain rfl:q=s.length:=by omega
  rw [List.take_length] at HT;rw [List.take_length];have HKq:=Lh (HKc.o.over hbq);have HKb:=Lh HKq.o.box.arr;have hbw:Below gR w wq:=bov HBcz.o (by have:=HBcz.o.size;have:=HGR.o;omega) hbq;have HGp:=Lh ((HGr.o.over (bvo HBr.o (bvo HBc.o hbq))).arr);have HOc:Hid (∀ W,Be wq W→Calls Tryz.prog 46 #[.agg #[.int .i64 n,.slice ra R.length rc],.slice p9 (thingsM l s).length c9] W (ROfRes W (blkM R f (thingsM l s)))):=Lh fun W hW=>HOf.o _ _ _ W (by unfold thingsM;rw [List.length_map];have:=HF.o;omega) (by unfold thingsM;rw [List.length_map];omega) ((HH.o.over (by (try unfold Be);rw [HGR.o];exact hbw)).over hW) (HT.o.over hW).row;have hwq:w2.heap.size≤wq.heap.size:=Nat.le_trans hwc hbq.size;clear hbw y0 sx;obtain⟨b0,b1,b2,sb⟩:=HKb.o.c3;obtain⟨g0,g1,sg⟩:=HGp.o.c2;go_upto_region 17 with fail;refine wlo 7 fun hcur=>?_;repeat(first|refine lxq ?_|(refine lxl rfl ?_;go_wp2_with (first|(go_at_call 46;(with_reducible refine(HOc.o _ hcur).mono ?_);rintro e w5 ⟨v5,ys5,rfl,hx5,hr5,hb5⟩;(obtain⟨p5,c5,e5,_,_,_⟩:=hx5.own.row.at encBl_len);subst e5;have HX5:Hid (BXR w5 wq.heap.size (.slice p5 ys5.length c5) ys5):=Lh hx5;have HR5:=Lh hr5;replace hcur:=bvo hcur hb5;clear hx5 hr5 hb5));refine⟨iov (by first|exact hcur|exact hcur.alloc hcur.size _),?_⟩))
  refine lxe ?_;have HK5:=Lh (HKq.o.over hcur);have HO5:=Lh HK5.o.sub.own;have hB6:w2.heap.size≤w5.heap.size:=Nat.le_trans hwq hcur.size;have hlo5:∀ b,(Value.slice p ys.length c).ownBlock=some b→b<wq.heap.size:=fun b hb=>gown_size HKq.o.sub.own hb;have hwl:=hwq;clear hcur;go_wp2_with (at_builtin;(first|refine wpList_append_newK slBlkR rfl _ _ rfl w2.heap.size #[.int .i64 4,.int .i64 0,.slice p5 ys5.length c5] 175 (drf _) 1 _ _ _ HO5.o rfl rfl rfl rfl HN6.o (by decide) hB6 ?_|refine wpList_append_newK slBlkR rfl _ _ rfl w2.heap.size #[.int .i64 4,.int .i64 0,.slice p5 ys5.length c5] 175 (ddw _) 1 _ _ _ HO5.o rfl rfl rfl rfl HN6.o (by decide) hB6 ?_);intro v6 w6 ho6 hg6 hv6;(obtain⟨p6,c6,e6,_,_,_⟩:=(GOwn.row (GOwn.snoc (x:=BlL.mk 4 0 (.slice p5 ys5.length c5) ys5) ho6)).at encBl_len);(have e7:v6=.slice p6 (ys.length+1) c6:=by rw [e6,List.length_append];rfl);clear e6;subst e7;have HST:=Lh (HK5.o.step (x:=BlL.mk 4 0 (.slice p5 ys5.length c5) ys5) (HX5.o.block 4 0) hlo5 hwl hzl ho6 hg6 hv6);have HB6:=Lh (ArrT.arr (HK5.o.box.kept hg6 (fun e=>by have:=gown_low HK5.o.sub.own e.symm;omega)));have t2:=HB6.o.k 2 rfl;have t3:=HB6.o.free 2;have st:=HB6.o.lt;clear ho6 hg6 hv6);go_roundw
  case rel=>exact⟨x+1,p6,c6,_,hlt,by go_num,Lh (by rw [bareL_snoc,HBa.o,HBs.o];congr 2;unfold bareB;rw [HR5.o]),HST⟩
  simp [intOf];omega
end
section
theorem rpiece_any(f n:Nat)(rv:Value)(R:List (Nat × Nat))(v:Value)(l:List Nat)(w:World)(h:RRel w n rv R)(hv:GRow encI 1 w v l)(hn:l.length≤1000000)(h0:0<l.length)(hf:l.length≤f)
  (hOf:∀(t:List Nat) (tv u:Value) (W:World),t.length<f→t.length≤1000000→RRel W n u R→GRow encI 1 W tv t→Calls Tryz.prog 46 #[rrV n u,tv] W (ROfRes W (blkM R f t))) :
  Calls Tryz.prog 95 #[rrV n rv,v] w (RPcRes w (pieceM R (blkM R f) l)):=by
 by_cases h1:l.length=1
 · obtain⟨i,rfl⟩:=List.length_eq_one_iff.1 h1;exact rpiece_one n rv R _ v i w h hv
 by_cases h2:(sidesM R l).length=1
 · exact rpiece_knot n rv R _ v l w h hv hn h0 h1 h2
 exact rpiece_fork f n rv R v l w h hv hn h0 h1 h2 hf hOf
theorem of_snocR{w w3 w6 wr:World}{v v6:Value}{xs ys3:List BlL}{k3 n3:Int}{s3:Value}{lo:Nat}(h:BXR w3 w.heap.size v xs)(hx:BIn (fun b=>lo≤b∧b<w3.heap.size) w3 (.mk k3 n3 s3 ys3))(hlo:wr.heap.size≤lo)(hw:w.heap.size≤wr.heap.size)(hv:∀ b,v.ownBlock=some b→b<wr.heap.size)
  (ho:w6.ownsRow w.heap.size 175 3 v6 (xs.length+1) (xs.flatMap encBl++[.int .i64 k3,.int .i64 n3,s3])) (hg:w3.grownBy w6 v.ownBlock) (hk:v6.ownBlock=v.ownBlock∨∃ k,v6.ownBlock=some k∧w3.heap.size≤k):BXR w6 w.heap.size v6 (xs++[.mk k3 n3 s3 ys3]):=
 BXR.snoc h (BIn.weak hx fun b hb=>⟨hb.1,hb.2,fun e=>by have:=hv b e.symm;omega⟩) (by omega) (GOwn.snoc (x:=BlL.mk k3 n3 s3 ys3) ho) hg hk
def RoRel(w0:World)(R:List (Nat × Nat))(f:Nat)(l:List Nat)(v5 v6 v7:Value)(wr:World):Prop:=∃(i at':Nat) (xs:List BlL),1≤i∧i≤l.length+1∧v7=.int .i64 i∧v6=.int .i64 at'∧Hid (BXR wr w0.heap.size v5 xs)∧Hid (bareL xs=(piecesTo R l (i - 1)).1.map (pieceM R (blkM R f)))∧at'=(piecesTo R l (i - 1)).2∧Be w0 wr
theorem pieces_yes1{R:List (Nat × Nat)}{l:List Nat}{i:Nat}(h1:1≤i)(h:i=l.length∨cutB R l i=true):piecesTo R l i=((piecesTo R l (i - 1)).1++[(l.take i).drop (piecesTo R l (i - 1)).2],i):=by obtain⟨k,rfl⟩:∃ k,i=k+1:=⟨i - 1,by omega⟩;rw [Nat.add_sub_cancel];exact pieces_yes h
theorem pieces_no1{R:List (Nat × Nat)}{l:List Nat}{i:Nat}(h1:1≤i)(h:¬ (i=l.length∨cutB R l i=true)):piecesTo R l i=piecesTo R l (i - 1):=by obtain⟨k,rfl⟩:∃ k,i=k+1:=⟨i - 1,by omega⟩;rw [Nat.add_sub_cancel];exact pieces_no h
attribute [local irreducible] piecesTo pieceM blkM cutB
theorem rof22_any(n:Nat)(R:List (Nat × Nat)):∀(f:Nat) (l:List Nat) (v rv:Value) (w:World),l.length<f→l.length≤1000000→RRel w n rv R→GRow encI 1 w v l →
  Calls Tryz.prog 46 #[rrV n rv,v] w (ROfRes w (blkM R f l))
 | 0,l,v,rv,w,hf,_,_,_=>absurd hf (Nat.not_lt_zero _)
 | f+1,l,v,rv,w,hf,hn,h,hv=>by
  have hih:=rof22_any n R f;obtain⟨ra,rc,rfl,r1,r2,_⟩:=prow_at h.row;unfold maxLen at r2;obtain⟨a,cap,rfl,h1,h2,hc⟩:=irow_at hv;unfold maxLen at h2;have HV:=Lh hv;have HH:=Lh h;have HIH:Hid (∀(t:List Nat) (tv u:Value) (W:World),t.length<f→t.length≤1000000→RRel W n u R→GRow encI 1 W tv t→Calls Tryz.prog 46 #[rrV n u,tv] W (ROfRes W (blkM R f t))):=Lh fun t tv u W ht h0 h1 h2=>hih t tv u W ht h0 h1 h2;have HBK:Hid (blkM R (f+1) l=(piecesTo R l l.length).1.map (pieceM R (blkM R f))):=Lh (by rw [blkM];rfl);have HG:=Lh (anw w #[.int .i64 n,.slice ra R.length rc] 103);have HB:=Lh (bnew (w:=w) (.cells #[.int .i64 n,.slice ra R.length rc] 103));clear hv h hih;go_enter Tryz.func46,Tryz.ntmps46;go_upto_region 1 with fail;generalize w.alloc (.cells #[.int .i64 n,.slice ra R.length rc] 103)=w0 at *;go_wp2;go_loopw [5,6,7] (fun v5 v6 v7 wr=>RoRel w0 R f l v5 v6 v7 wr) (fun _ _ v7 _=>l.length+1 - (intOf v7).toNat)
  case atStart=>exact⟨1,0,[],by omega,by omega,rfl,rfl,Lh (bxr_nil _ _),Lh (by rw [show 1 - 1=0 from rfl,pieces_zero];rfl),by rw [show 1 - 1=0 from rfl,pieces_zero],Below.refl _ _⟩
  obtain⟨i,at',xs,hi1,hi,rfl,rfl,HX,HBa,hat,hbl⟩:=hrel;rename World=>wr;have HBr:=Lh hbl;have hai:at'<i:=by rw [hat];have:=pieces_at R l (i - 1);omega
  have HAt:=Lh hat.symm;have HXl:Hid (xs.length+1≤1099511627776):=Lh (by have h9:=congrArg List.length HBa.o;rw [bareL_map,List.length_map,List.length_map] at h9;have:=pieces_few R l (i - 1);omega);have HBw:=Lh (bvo HB.o hbl);clear hat hbl
  by_cases hlt:i≤l.length
  rotate_left
  · obtain rfl:i=l.length+1:=(by omega);go_wp2;go_ret;exact⟨_,xs,rfl,HX.o.base HB.o.size,by rw [HBa.o,HBK.o,Nat.add_sub_cancel],HBw.o⟩
  obtain⟨b,off,rfl,sb,hcb⟩:=hc.resolve_left (by omega);clear hcb
  by_cases hlast:i=l.length
  ·
   have HPt:=Lh (pieces_yes1 (R:=R) hi1 (.inl hlast));have g1:((i:Int) == (l.length:Int))=true:=(by rw [beq_iff_eq];omega);clear hlast;have HSlr:Hid (GRow encI 1 wr (.slice (some ⟨b,off+at',none⟩) (i - at') (cap - at')) ((l.take i).drop at')):=Lh (row_part (HV.o.over HBw.o) hai hlt);have HPc:Hid (∀ W,Be wr W→Calls Tryz.prog 95 #[.agg #[.int .i64 n,.slice ra R.length rc],.slice (some ⟨b,off+at',none⟩) (i - at') (cap - at')] W (RPcRes W (pieceM R (blkM R f) ((l.take i).drop at')))):=Lh fun W hW=>rpiece_any f n _ R _ _ W ((HH.o.over HBw.o).over hW) (HSlr.o.over hW) (by rw [List.length_drop,List.length_take];omega) (by rw [List.length_drop,List.length_take];omega) (by rw [List.length_drop,List.length_take];omega) HIH.o;have HGq:=Lh (HG.o.over HBr.o);have HXq:=Lh (HX.o.over (Below.refl _ _));obtain⟨q0,q1,sq⟩:=HGq.o.c2;have sB:b<wr.heap.size:=(by have:=(HBr.o).size;have:=HB.o.size;omega);go_upto_region 7 with fail;refine wlo 8 fun hcur=>?_;(repeat(first|refine lxq ?_|(refine lxl rfl ?_;go_wp2_with (first|(go_at_call 95;(with_reducible refine(HPc.o _ hcur).mono ?_);rintro e w3 ⟨k3,n3,s3,ys3,rfl,hb3,hi3,hbw3⟩;(obtain⟨p3,c3,e3,_,_,_⟩:=(bin_mk.1 hi3).1.at encBl_len);subst e3;have HB3:=Lh hb3;have HI3:=Lh hi3;replace hcur:=bvo hcur hbw3;clear hb3 hi3 hbw3));refine⟨iov (by first|exact hcur|exact hcur.alloc hcur.size _),?_⟩)));refine lxe ?_;have HX3:=Lh (HXq.o.over hcur);have HO3:=Lh HX3.o.own;have HBw3:=Lh (bvo (HBr.o) hcur);have hB3:=HBw3.o.size;have hcs:=hcur.size;have hN:=HXl.o;clear hcur q0 q1 sq;go_wp2_with (at_builtin;(first|refine wpList_append_newK slBlkR rfl _ _ rfl w0.heap.size #[.int .i64 k3,.int .i64 n3,.slice p3 ys3.length c3] 175 (drf _) 1 _ _ _ HO3.o rfl rfl rfl rfl hN (by decide) hB3 ?_|refine wpList_append_newK slBlkR rfl _ _ rfl w0.heap.size #[.int .i64 k3,.int .i64 n3,.slice p3 ys3.length c3] 175 (ddw _) 1 _ _ _ HO3.o rfl rfl rfl rfl hN (by decide) hB3 ?_);intro v6 w6 ho6 hg6 hv6);go_roundw
   case rel=>exact⟨i+1,i,xs++[.mk k3 n3 (.slice p3 ys3.length c3) ys3],by omega,by omega,by go_num,rfl,Lh (of_snocR (lo:=wr.heap.size) HX3.o (BIn.weak HI3.o fun b hb=>⟨by first|exact hb.1|(have:=hb.1;simpa using this),hb.2⟩) (Nat.le_refl _) (HBr.o).size (fun b hb=>gown_size HXq.o.own hb) ho6 hg6 hv6),Lh (by rw [bareL_snoc,HBa.o,HB3.o,Nat.add_sub_cancel,HPt.o,List.map_append,HAt.o];rfl),by rw [Nat.add_sub_cancel,HPt.o],bgr HBw3.o hB3 HO3.o hg6⟩
   simp [intOf];omega
  have g1:((i:Int) == (l.length:Int))=false:=by rw [beq_eq_false_iff_ne];omega
  have HGr:=Lh (HG.o.over HBr.o);obtain⟨g2,g3,sg⟩:=HGr.o.c2;have HCt:=Lh (rcut22_any n _ R _ l i wr (HH.o.over HBw.o) (HV.o.over HBw.o) (by omega));unfold rrV at HCt;cases hcu:cutB R l i with
  | true =>
   rw [hcu] at HCt;have HPt:=Lh (pieces_yes1 (R:=R) hi1 (.inr hcu));clear hcu;go_wp2_with fail
   with_reducible refine(HCt.o).mono ?_
   rintro e w2 ⟨rfl,hb2⟩;have HBr2:=Lh (bvo HBr.o hb2);have HBw2:=Lh (bvo HBw.o hb2);have HBq2:=Lh hb2;clear hb2 g2 g3 sg;have HSlr:Hid (GRow encI 1 w2 (.slice (some ⟨b,off+at',none⟩) (i - at') (cap - at')) ((l.take i).drop at')):=Lh (row_part (HV.o.over HBw2.o) hai hlt);have HPc:Hid (∀ W,Be w2 W→Calls Tryz.prog 95 #[.agg #[.int .i64 n,.slice ra R.length rc],.slice (some ⟨b,off+at',none⟩) (i - at') (cap - at')] W (RPcRes W (pieceM R (blkM R f) ((l.take i).drop at')))):=Lh fun W hW=>rpiece_any f n _ R _ _ W ((HH.o.over HBw2.o).over hW) (HSlr.o.over hW) (by rw [List.length_drop,List.length_take];omega) (by rw [List.length_drop,List.length_take];omega) (by rw [List.length_drop,List.length_take];omega) HIH.o;have HGq:=Lh (HG.o.over HBr2.o);have HXq:=Lh (HX.o.over HBq2.o);obtain⟨q0,q1,sq⟩:=HGq.o.c2;have sB:b<w2.heap.size:=(by have:=(HBr2.o).size;have:=HB.o.size;omega);go_upto_region 7 with fail;refine wlo 8 fun hcur=>?_;(repeat(first|refine lxq ?_|(refine lxl rfl ?_;go_wp2_with (first|(go_at_call 95;(with_reducible refine(HPc.o _ hcur).mono ?_);rintro e w3 ⟨k3,n3,s3,ys3,rfl,hb3,hi3,hbw3⟩;(obtain⟨p3,c3,e3,_,_,_⟩:=(bin_mk.1 hi3).1.at encBl_len);subst e3;have HB3:=Lh hb3;have HI3:=Lh hi3;replace hcur:=bvo hcur hbw3;clear hb3 hi3 hbw3));refine⟨iov (by first|exact hcur|exact hcur.alloc hcur.size _),?_⟩)));refine lxe ?_;have HX3:=Lh (HXq.o.over hcur);have HO3:=Lh HX3.o.own;have HBw3:=Lh (bvo (HBr2.o) hcur);have hB3:=HBw3.o.size;have hcs:=hcur.size;have hN:=HXl.o;clear hcur q0 q1 sq;go_wp2_with (at_builtin;(first|refine wpList_append_newK slBlkR rfl _ _ rfl w0.heap.size #[.int .i64 k3,.int .i64 n3,.slice p3 ys3.length c3] 175 (drf _) 1 _ _ _ HO3.o rfl rfl rfl rfl hN (by decide) hB3 ?_|refine wpList_append_newK slBlkR rfl _ _ rfl w0.heap.size #[.int .i64 k3,.int .i64 n3,.slice p3 ys3.length c3] 175 (ddw _) 1 _ _ _ HO3.o rfl rfl rfl rfl hN (by decide) hB3 ?_);intro v6 w6 ho6 hg6 hv6);go_roundw
   case rel=>exact⟨i+1,i,xs++[.mk k3 n3 (.slice p3 ys3.length c3) ys3],by omega,by omega,by go_num,rfl,Lh (of_snocR (lo:=w2.heap.size) HX3.o (BIn.weak HI3.o fun b hb=>⟨by first|exact hb.1|(have:=hb.1;simpa using this),hb.2⟩) (Nat.le_refl _) (HBr2.o).size (fun b hb=>gown_size HXq.o.own hb) ho6 hg6 hv6),Lh (by rw [bareL_snoc,HBa.o,HB3.o,Nat.add_sub_cancel,HPt.o,List.map_append,HAt.o];rfl),by rw [Nat.add_sub_cancel,HPt.o],bgr HBw3.o hB3 HO3.o hg6⟩
   simp [intOf];omega
  | false =>
   rw [hcu] at HCt;have HPt:=Lh (pieces_no1 (R:=R) hi1 (fun q=>q.elim hlast (fun q=>by rw [hcu] at q;cases q)));clear hcu;go_wp2_with fail
   with_reducible refine(HCt.o).mono ?_
   rintro e w2 ⟨rfl,hb2⟩;have HBr2:=Lh (bvo HBr.o hb2);have HX2:=Lh (HX.o.over hb2);clear hb2 g2 g3 sg;go_wp2;go_roundw
   case rel=>exact⟨i+1,at',xs,by omega,by omega,by go_num,rfl,HX2,Lh (by rw [Nat.add_sub_cancel,HPt.o];exact HBa.o),by rw [Nat.add_sub_cancel,HPt.o];exact HAt.o.symm,HBr2.o⟩
   simp [intOf];omega
end
section
attribute [local irreducible] oddL oddB bareL bareB
end
section
variable{l:List VertM}
theorem place_is:∀ {l:List VertM} {v:VidM} {k:Nat} {x:VertM},l[k]? = some x→x.id=v→(∀ j y,j<k→l[j]? = some y→y.id≠v)→placeM l v=k
 | [],_,k,_,hx,_,_=>by simp at hx
 | y :: l,v,0,x,hx,hid,_=>by simp at hx;subst hx;unfold placeM;rw [List.map_cons,hid,List.idxOf_cons_self]
 | y :: l,v,k+1,x,hx,hid,hno=>by have h0:y.id≠v:=hno 0 y (by omega) rfl;have ih:=place_is (l:=l) (v:=v) (k:=k) (x:=x) (by simpa using hx) hid (fun j z hj hz=>hno (j+1) z (by omega) (by simpa using hz));unfold placeM at ih ⊢;rw [List.map_cons,List.idxOf_cons,ih,show(y.id == v)=false from decide_eq_false h0];rfl
theorem no_step{v:VidM}{k:Nat}{x:VertM}(hx:l[k]? = some x)(hne:¬ x.id=v)(hno:∀ j y,j<k→l[j]? = some y→y.id≠v):∀ j y,j<k+1→l[j]? = some y→y.id≠v:=fun j y hj hy=>by
 rcases Nat.lt_or_ge j k with h|h
 · exact hno j y h hy
 ·
  obtain rfl:j=k:=by omega
  rw [hx] at hy;cases hy;exact hne
theorem r21place_any(lv:Value)(l:List VertM)(v:VidM)(w:World)(hv:GRow encVert 9 w lv l)(hm:v∈l.map (·.id)) :
  Calls Tryz.prog 92 #[lv,vidV v] w fun e w'=>e=.returned (.int .i64 (placeM l v:Int))∧Be w w':=by
 have gd:=fun p q xs ys w=>guard_vid .eql p q xs ys w;obtain⟨a,cap,rfl,h1,h2,hc⟩:=hv.at encVert_len;unfold maxLen at h2;have HC:=Lh hc;have HM:=Lh (place_get hm);have HF:=Lh (anw w (cV v) 27);have HB:=Lh (bnew (w:=w) (.cells (cV v) 27));clear hv hc hm;unfold vidV;go_enter Tryz.func92,Tryz.ntmps92;go_upto_region 1 with fail;generalize w.alloc (.cells (cV v) 27)=w0 at *;go_wp2;go_loopw [5] (fun v5 wr=>∃ k:Nat,k≤l.length∧v5=.int .i64 k∧Hid (∀ j y,j<k→l[j]? = some y→y.id≠v)∧Hid (Be w0 wr)) (fun v5 _=>l.length - (intOf v5).toNat)
 case atStart=>exact⟨0,by omega,rfl,Lh (fun j y hj=>absurd hj (Nat.not_lt_zero j)),Below.refl _ _⟩
 obtain⟨k,hk,rfl,HN,hbl⟩:=hrel;rename World=>wr;have HBr:=Lh (bvo HB.o hbl.o);have HFr:=Lh (HF.o.over hbl.o);obtain⟨f0,f1,f2,sf⟩:=HFr.o.c3
 by_cases hlt:k<l.length
 rotate_left
 · obtain⟨y,hy,hyv⟩:=HM.o;exact absurd hyv (HN.o (placeM l v) y (Nat.lt_of_lt_of_le (List.getElem?_eq_some_iff.1 hy).1 (by omega)) hy)
 obtain⟨b,off,rfl,sb,hcb⟩:=HC.o.resolve_left (by omega);obtain⟨x,hx⟩:=gol hlt;have HX:=Lh hx;have HRx:=Lh (hcb k x hx wr HBr.o);obtain⟨x0,x1,x2,x3,x4,x5,x6,x7,x8,sx⟩:=rc9 HRx.o;clear hcb hx
 by_cases he:x.id=v
 ·
  have e1:=eql_vid x.id v true (by simp [he]);unfold vidV at e1;have HV:=Lh (place_is HX.o he HN.o);clear he;go_wp2_with fail;refine wlo 7 fun hcur=>?_;repeat refine lxq ?_
  refine lxe ?_;clear hcur;go_wp2;go_ret;exact⟨ret_int (by rw [HV.o]),HBr.o.drew⟩
 have e1:=eql_vid x.id v false (by simp [he]);unfold vidV at e1;have HN2:=Lh (no_step HX.o he HN.o);clear he;go_wp2_with fail;refine wlo 7 fun hcur=>?_;repeat refine lxq ?_
 refine lxe ?_;clear hcur;go_wp2;go_roundw
 case rel=>exact⟨k+1,hlt,by go_num,HN2,Lh hbl.o.drew⟩
 simp [intOf];omega
abbrev rsV(lv:Value)(n:Nat)(sv:Value):Value:=.agg #[lv,.int .i64 n,sv]
structure RSh (w:World) (lv sv:Value) (l:List VertM) (R:List (Nat × Nat)):Prop where
 row:GRow encVert 9 w lv l
 rel:RRel w l.length sv R
theorem RSh.over{w w':World}{lv sv:Value}{R:List (Nat × Nat)}(h:RSh w lv sv l R)(hb:Be w w'):RSh w' lv sv l R:=⟨h.row.over hb,h.rel.over hb⟩
theorem RSh.form{w:World}{lv sv:Value}{R:List (Nat × Nat)}(h:RSh w lv sv l R):∃ lp lc sp sc,lv=.slice lp l.length lc∧sv=.slice sp R.length sc∧lc≤maxLen:=by obtain⟨a,cap,e1,_,h3,_⟩:=h.row.at encVert_len;obtain⟨a2,cap2,e2,_⟩:=prow_at h.rel.row;exact⟨a,cap,a2,cap2,e1,e2,h3⟩
attribute [local irreducible] orderM keptI aliveQL deadQL aliveX firmB
theorem r21order_any(lv sv:Value)(l:List VertM)(R:List (Nat × Nat))(w:World)(h:RSh w lv sv l R):Calls Tryz.prog 96 #[rsV lv l.length sv] w (OwnRes encI 1 3 w (orderM R l.length)):=by obtain⟨lp,lc,sp,sc,rfl,rfl,hlc⟩:=h.form;unfold maxLen at hlc;have HS:=Lh (h.over (bnew (w:=w) (.cells #[.slice lp l.length lc,.int .i64 l.length,.slice sp R.length sc] 105)));have HG:=Lh (anw w #[.slice lp l.length lc,.int .i64 l.length,.slice sp R.length sc] 105);have HB:=Lh (bnew (w:=w) (.cells #[.slice lp l.length lc,.int .i64 l.length,.slice sp R.length sc] 105));clear h;unfold rsV;go_enter Tryz.func96,Tryz.ntmps96;go_upto_region 1 with fail;generalize w.alloc (.cells #[.slice lp l.length lc,.int .i64 l.length,.slice sp R.length sc] 105)=w0 at *;obtain⟨g0,g1,g2,sg⟩:=HG.o.c3;go_wp2_with fail;refine(r9order_any l.length _ R _ HS.o.rel).mono ?_;rintro e w1 ⟨v,rfl,ho,hb⟩;have HO:=Lh (ho.base HB.o.size);have HB1:=Lh (bvo HB.o hb);clear ho hb;go_wp2;go_ret;exact⟨_,rfl,HO.o,HB1.o⟩
def AvRel(w1:World)(l:List VertM)(od:List Nat)(v3 v5:Value)(wr:World):Prop:=∃ k:Nat,k≤od.length∧v5=.int .i64 k∧Hid (GOwn encI 1 3 wr w1.heap.size v3 (keptI l od k))∧Hid (Be w1 wr)
theorem keptI_zero(l:List VertM)(xs:List Nat):keptI l xs 0=[]:=by unfold keptI;rfl
theorem keptI_len(l:List VertM)(xs:List Nat)(k:Nat):(keptI l xs k).length≤xs.length:=by unfold keptI;refine Nat.le_trans (List.length_filter_le _ _) ?_;rw [List.length_take];exact Nat.min_le_right _ _
theorem aliveX_kept(l:List VertM)(R:List (Nat × Nat)):keptI l (orderM R l.length) (orderM R l.length).length=aliveX l R:=by unfold aliveX;exact keptI_all l _
theorem r21alive_any(lv sv:Value)(l:List VertM)(R:List (Nat × Nat))(w:World)(h:RSh w lv sv l R):Calls Tryz.prog 47 #[rsV lv l.length sv] w (OwnRes encI 1 3 w (aliveX l R)):=by
 have hroom:=h.rel.room;obtain⟨lp,lc,sp,sc,rfl,rfl,hlc⟩:=h.form;unfold maxLen at hlc;have HS:=Lh (h.over (bnew (w:=w) (.cells #[.slice lp l.length lc,.int .i64 l.length,.slice sp R.length sc] 105)));have HG:=Lh (anw w #[.slice lp l.length lc,.int .i64 l.length,.slice sp R.length sc] 105);have HB:=Lh (bnew (w:=w) (.cells #[.slice lp l.length lc,.int .i64 l.length,.slice sp R.length sc] 105));clear h;unfold rsV;go_enter Tryz.func47,Tryz.ntmps47;go_upto_region 1 with fail;generalize w.alloc (.cells #[.slice lp l.length lc,.int .i64 l.length,.slice sp R.length sc] 105)=w0 at *;obtain⟨g0,g1,g2,sg⟩:=HG.o.c3;go_wp2_with fail;refine(r21order_any _ _ l R _ HS.o).mono ?_;rintro e w1 ⟨ov,rfl,ho,hb⟩;obtain⟨a5,c5,rfl,z1,z2,hc5⟩:=irow_at ho.row;unfold maxLen at z2;have HC5:=Lh hc5;have HB1:=Lh hb;have HG1:=Lh (HG.o.over hb);have HS1:=Lh (HS.o.over hb);have HOl:Hid (∀ i∈orderM R l.length,i<l.length):=fun i hi=>order_lt hi;have HAK:=Lh (aliveX_kept l R);have hol:(orderM R l.length).length≤1000000:=by rw [orderM_len];omega
 generalize orderM R l.length=od at *;clear ho hb hc5 g0 g1 g2 sg;go_wp2;go_loopw [3,5] (fun v3 v5 wr=>AvRel w1 l od v3 v5 wr) (fun _ v5 _=>od.length - (intOf v5).toNat)
 case atStart=>exact⟨0,by omega,rfl,Lh (by rw [keptI_zero];exact gown_nil _ _),Below.refl _ _⟩
 obtain⟨k,hk,rfl,HM,hbl⟩:=hrel;rename World=>wr;have HGr:=Lh (HG1.o.over hbl.o);obtain⟨g0,g1,g2,sg⟩:=HGr.o.c3;have hkl:=keptI_len l od k
 by_cases hlt:k<od.length
 rotate_left
 ·
  obtain rfl:k=od.length:=by omega
  have HE:=HM.o;rw [HAK.o] at HE;have HE2:=Lh (HE.base (Nat.le_trans HB.o.size HB1.o.size));clear HE;go_wp2;go_ret;exact⟨_,rfl,HE2.o,bvo HB.o (bvo HB1.o hbl.o)⟩
 obtain⟨b5,off5,rfl,sb5,hcb5⟩:=HC5.o.resolve_left (by omega);obtain⟨i,hi⟩:=gol hlt;obtain⟨si,i0⟩:=hcb5 k i hi _ hbl.o;have hil:=HOl.o i (List.mem_of_getElem? hi);obtain⟨x,hx⟩:=gol hil;obtain⟨a7,c7,e7,y1,y2,hc7⟩:=(HS1.o.over hbl.o).row.at encVert_len;cases e7
 obtain⟨b7,off7,rfl,sb7,hcb7⟩:=hc7.resolve_left (by omega);have x8:wr.cell? ⟨b7,off7+i*9+8,none⟩=some (.bool x.dead):=(hcb7 i x hx wr (Below.refl _ _)).2 8 _ rfl;have HI:=Lh hi;have HX:=Lh (deadQL_at hx);clear hcb5 hi hx hc7 hcb7;cases hd:x.dead with
 | true =>
  have HN:=Lh (keptI_no HI.o (HX.o.trans hd));rw [hd] at x8;clear hd;go_wp2_with fail;refine wlo 10 fun hcur=>?_;repeat refine lxq ?_
  refine lxe ?_;clear hcur;go_wp2;go_roundw
  case rel=>exact⟨k+1,hlt,by go_num,(by show GOwn _ _ _ _ _ _ _;rw [HN.o];exact HM.o.over (Below.refl _ _).drew),Lh hbl.o.drew⟩
  simp [intOf];omega
 | false =>
  have HN:=Lh (keptI_yes HI.o (HX.o.trans hd));rw [hd] at x8;have hN:(keptI l od k).length+1≤1099511627776:=by omega
  have hB:=hbl.o.size;clear hd;go_wp2_with fail;refine wlo 10 fun hcur=>?_;repeat refine lxq ?_
  refine lxe ?_;clear hcur;go_wp2_with (at_builtin;refine apD slIntI rfl _ _ rfl w1.heap.size _ _ (dad _ _ _) 1 _ _ _ HM.o rfl rfl rfl rfl hN (by decide) hB ?_;intro v9 w9 ho9 hg9);go_roundw
  case rel=>exact⟨k+1,hlt,by go_num,(by show GOwn _ _ _ _ _ _ _;rw [HN.o];exact GOwn.snoc ho9),bgr hbl.o hB HM.o hg9⟩
  simp [intOf];omega
end
attribute [local irreducible] keptV1 aliveX
end Go.Proofs.YtanfebljiblhbaaGreatDoor
set_option maxRecDepth 100000
set_option maxHeartbeats 40000000
namespace Go.Proofs.YtanfebljiblhbaaGreatDoor
open Go Go.RowKit
variable{xs:List VertM}{B:Nat}
section
variable {P : Program} {ty : TypeId} {size : Nat} {w : World} {ops : Array Oper} {rest : List Oper} {o : Oper} {a : Act} {Q : Exit → Act → World → Prop}
theorem wpList_store_own(T:RowT P ty size)(hgd:o.guard=none)(x y:Operand)(ho:o.op=.store ty x y){e:TypeId}{sz g n cap:Nat}{xs:List Value}(hA:OwnAt w B e sz g n cap xs)(k:Nat)(new:List Value)
  (hx:a.eval x=.pointer (some ⟨g,k,none⟩)) (hy:a.eval y=.agg new.toArray) (hn:new.length=size) (hk:k+new.length≤n*sz) (h1:∀ u∈new,u.oneCell'=true)
  (h:∀ w',OwnAt w' B e sz g n cap (xs.take k++new++xs.drop (k+new.length))→w.grownBy w' (some g)→w'.heap.size=w.heap.size→wpList P ops Q rest (a.put o.dst undef) w'):wpList P ops Q (o :: rest) a w:=by
 refine wpList_plain hgd fun K hK => ?_;obtain⟨d,i,_,_,h3,h4⟩:=T.out;obtain⟨w',hs,r1,r2,r3⟩:=hA.put (P:=P) h1 hk;have hc:(Value.agg new.toArray).cells=new.toArray:=rfl;have hr:(storeVar ty ⟨g,k,none⟩ (.agg new.toArray)).run P w=.ok () w':=by simp [storeVar,sizeOf,typeInfo,h3,h4,hc,hn,hs]
 unfold Oper.wp execOp;simp only [ho,hx,hy,Instr.storeAt,Instr.sureAddr,Sem.run_bind,Sem.run_pure,Result.andThen_ok,hr];exact hK _ _ (h w' r1 r2 r3)
end
theorem oneZ_Vert:∀ u∈((.agg #[.int .u8 0,.int .u16 0,.int .u8 0,.int .u8 0,.int .u8 0,.int .u16 0,.int .u8 0,.string ⟨#[]⟩,.bool false]:Value).cells).toList,u.oneCell'=true:=List.all_eq_true.1 rfl
theorem zero_Vert:((Tryz.prog.info? 86).bind (·.zero))=some (.agg #[.int .u8 0,.int .u16 0,.int .u8 0,.int .u8 0,.int .u8 0,.int .u16 0,.int .u8 0,.string ⟨#[]⟩,.bool false]):=by kernel_rfl
theorem deadFn_any(x:VertM)(w:World):Calls Tryz.prog 116 #[vertV x] w fun e w'=>e=.returned (.bool x.dead)∧Be w w':=by have HX:=Lh (anw w (cX x) 86);have HB:=Lh (bnew (w:=w) (.cells (cX x) 86));unfold vertV;go_enter Tryz.func116,Tryz.ntmps116;go_upto_region 1 with fail;generalize w.alloc (.cells (cX x) 86)=w0 at *;obtain⟨c0,c1,c2,c3,c4,c5,c6,c7,c8,sc⟩:=HX.o.c9;go_wp2;go_ret;exact⟨rfl,HB.o⟩
def deadQ(x:VertM):Bool:=x.dead
def IdRes(w:World)(xs:List VertM)(e:Ending)(w':World):Prop:=e=.returned (.int .i64 (idxB deadQ xs))∧Be w w'
attribute [local irreducible] idxB
theorem idxDead_any(v:Value)(xs:List VertM)(w:World)(hv:GRow encVert 9 w v xs)(hl:xs.length≤1000000) :
  Calls Tryz.prog 179 #[v,.func (.func 116) #[] #[]] w (IdRes w xs):=by
 obtain⟨a,cap,rfl,h1,h2,hc⟩:=hv.at encVert_len;unfold maxLen at h2;have HC:=Lh hc;clear hv hc;go_enter Tryz.func179,Tryz.ntmps179;go_wp2;go_loopw [8] (fun v8 wr=>∃ k:Nat,k≤xs.length∧v8=.int .i64 k∧Hid ((xs.take k).any deadQ=false)∧Be w wr) (fun v8 _=>xs.length - (intOf v8).toNat)
 case atStart=>exact⟨0,by omega,rfl,(by show _=_;simp),Below.refl _ _⟩
 obtain⟨k,hk,rfl,HK,hbl⟩:=hrel;rename World=>wr
 by_cases hlt:k<xs.length
 rotate_left
 ·
  obtain rfl:k=xs.length:=by omega
  have HI:=Lh (idx_miss HK.o);go_wp2;go_ret;exact⟨ret_int HI.o.symm,hbl⟩
 obtain⟨b,off,rfl,sb,hcb⟩:=HC.o.resolve_left (by omega);obtain⟨u,hu⟩:=gol hlt;have HU:=Lh (hcb k u hu wr hbl);obtain⟨u0,u1,u2,u3,u4,u5,u6,u7,u8,su⟩:=rc9 HU.o;have HX:=Lh hu;clear hcb hu;go_wp2_with fail;refine(deadFn_any u _).mono ?_;rintro e w1 ⟨rfl,hb1⟩;have HB1:=Lh (bvo hbl hb1);clear hb1 u0 u1 u2 u3 u4 u5 u6 u7 u8 su;cases hf:u.dead with
 | true =>have HI:=Lh (idx_hit HK.o HX.o (f:=deadQ) hf);clear hf;go_wp2;go_ret;exact⟨ret_int HI.o.symm,HB1.o⟩
 | false =>
  have HI:=Lh (any_step HK.o HX.o (f:=deadQ) hf);clear hf;go_wp2;go_roundw
  case rel=>exact⟨k+1,hlt,by go_num,HI,HB1.o⟩
  simp [intOf];omega
def aliveQ(x:VertM):Bool := !x.dead
def keptV(xs:List VertM)(j:Nat):List VertM:=(xs.take j).filter aliveQ
theorem kept_yes{j:Nat}{u:VertM}(h:xs[j]? = some u)(hd:u.dead=false):keptV xs (j+1)=keptV xs j++[u]:=by unfold keptV;rw [take_succ' h,List.filter_append];simp [aliveQ,hd]
theorem kept_no{j:Nat}{u:VertM}(h:xs[j]? = some u)(hd:u.dead=true):keptV xs (j+1)=keptV xs j:=by unfold keptV;rw [take_succ' h,List.filter_append];simp [aliveQ,hd]
theorem kept_all(xs:List VertM):keptV xs xs.length=xs.filter aliveQ:=by unfold keptV;rw [List.take_length]
theorem idx_cases(xs:List VertM):(idxB deadQ xs = -1∧xs.filter aliveQ=xs)∨∃ k u,k<xs.length∧idxB deadQ xs=(k:Int)∧xs[k]? = some u∧u.dead=true∧keptV xs k=xs.take k:=by
 unfold idxB;cases h:xs.findIdx? deadQ with
 | none =>rw [List.findIdx?_eq_none_iff] at h;exact .inl ⟨rfl,List.filter_eq_self.2 fun x hx=>by have:=h x hx;unfold deadQ at this;simp [aliveQ,this]⟩
 | some k =>rw [List.findIdx?_eq_some_iff_getElem] at h;obtain⟨hk,h1,h2⟩:=h;refine .inr ⟨k,xs[k],hk,rfl,List.getElem?_eq_getElem hk,h1,?_⟩;unfold keptV;refine List.filter_eq_self.2 fun x hx => ?_;obtain⟨j,hj,rfl⟩:=List.mem_iff_getElem.1 hx;rw [List.length_take] at hj;rw [List.getElem_take];have:=h2 j (by omega);unfold deadQ at this;simp [aliveQ];simpa using this
def DelRes(w:World)(B:Nat)(v:Value)(xs:List VertM)(e:Ending)(w':World):Prop:=∃ v',e=.returned v'∧GOwn encVert 9 86 w' B v' (xs.filter aliveQ)∧w.grownBy w' v.ownBlock
def DelRel(w:World)(B g cap:Nat)(xs:List VertM)(v5 v6:Value)(wr:World):Prop:=
 ∃(m j:Nat) (zs:List VertM),j≤xs.length∧m<j∧v5=.int .i64 m∧v6=.int .i64 j∧zs.length=xs.length∧Hid (zs.take m=keptV xs j)∧Hid (∀ i,j≤i→zs[i]? = xs[i]?) ∧
  Hid (OwnAt wr B 86 9 g xs.length cap (zs.flatMap encVert))∧Hid (w.grownBy wr (some g))
attribute [local irreducible] keptV aliveQ
theorem delete_any{w:World}{v:Value}(h:GOwn encVert 9 86 w B v xs)(hn:xs.length≤1000000) :
  Calls Tryz.prog 115 #[v,.func (.func 116) #[] #[]] w (DelRes w B v xs):=by
 have HO:=Lh h;have hcon:=idxDead_any v xs w h.row hn;unfold IdRes at hcon;rcases idx_cases xs with⟨hi,hf⟩|⟨k0,u0,hk0,hi,hu0,hd0,hkp⟩
 · rw [hi] at hcon;have HF:=Lh hf;clear h hi hf;go_enter Tryz.func115,Tryz.ntmps115;go_wp2_with fail;refine hcon.mono ?_;rintro e w1 ⟨rfl,hb1⟩;have HB1:=Lh hb1;clear hcon hb1;go_wp2;go_ret;exact⟨_,rfl,(by rw [HF.o];exact HO.o.over HB1.o),grown_of_below HB1.o⟩
 rw [hi] at hcon;obtain⟨g,cap,rfl,hA⟩:=own_at (show World.ownsRow _ _ _ _ _ _ _ from h) (by omega);have HA:=Lh hA;have hnc:=hA.nc;have hcm:=hA.cm;unfold maxLen at hcm;have hg:=hA.lt;have HK0:Hid (xs.take k0=keptV xs (k0+1)):=by show _=_;rw [kept_no hu0 hd0,hkp]
 clear h hi hA hu0 hd0 hkp;go_enter Tryz.func115,Tryz.ntmps115;go_wp2_with fail;refine hcon.mono ?_;rintro e w1 ⟨rfl,hb1⟩;have HA1:=Lh (HA.o.over hb1);have HG1:=Lh (grown_of_below hb1 (row:=some g));have d0:((k0:Int) == -1)=false:=by simp <;> omega
 clear hcon hb1;go_wp2;go_loopw [5,6] (fun v5 v6 wr=>DelRel w B g cap xs v5 v6 wr) (fun _ v6 _=>xs.length - (intOf v6).toNat)
 case atStart=>exact⟨k0,k0+1,xs,hk0,Nat.lt_succ_self _,rfl,by go_num,rfl,HK0,Lh (fun _ _=>rfl),HA1,HG1⟩
 obtain⟨m,j,zs,hj,hm,rfl,rfl,hz,HT,HJ,HI,HG⟩:=hrel;rename World=>wr;have sI:=HI.o.lt
 by_cases hlt:j<xs.length
 rotate_left
 ·
  obtain rfl:j=xs.length:=by omega
  have HE:Hid (zs.take m=xs.filter aliveQ):=by show _=_;rw [HT.o,kept_all]
  have hlen:(xs.filter aliveQ).length=m:=by rw [← HE.o,List.length_take];omega
  have HL:=Lh hlen;have HTk:=Lh (HI.o.take (k:=m) (by omega));have hcm2:¬ cap=m:=by omega
  have HF:Hid ((zs.flatMap encVert).take (m*9)=(xs.filter aliveQ).flatMap encVert):=by
   show _=_;rw [← HE.o]
   conv=>lhs;rw [← List.take_append_drop m zs,List.flatMap_append]
   have:((zs.take m).flatMap encVert).length=m*9:=(by rw [flat_len encVert_len,List.length_take,Nat.min_eq_left (by omega)]);rw [List.take_append_of_le_length (by omega),List.take_of_length_le (by omega)]
  clear hlen;go_wp2_with (refine wpList_clear_at slVertP _ zero_Vert (zero_one oneZ_Vert) (fun k=>by rw [size_zeroCells];rfl) rfl _ rfl B g m cap _ HTk.o m _ _ _ rfl rfl (Nat.le_refl _) (by omega) ?_;intro w3 hA3 hg3 hs3);go_ret;refine⟨_,rfl,?_,gtr HG.o hg3⟩;show World.ownsRow _ _ _ _ _ _ _;rw [HL.o,← HF.o];exact hA3.own
 obtain⟨u,hu⟩:=gol hlt;have hu2:zs[j]? = some u:=(HJ.o j (Nat.le_refl _)).trans hu;have HU:=Lh hu;have u0:wr.cell? ⟨g,j*9,none⟩=some (.int .u8 u.id.pid.author.toNat):=HI.o.cell ((flat_get encVert_len _ j 0 u hu2 (by decide)).trans rfl);have u1:wr.cell? ⟨g,j*9+1,none⟩=some (.int .u16 u.id.pid.seq.toNat):=HI.o.cell ((flat_get encVert_len _ j 1 u hu2 (by decide)).trans rfl);have u2:wr.cell? ⟨g,j*9+2,none⟩=some (.int .u8 u.id.n.toNat):=HI.o.cell ((flat_get encVert_len _ j 2 u hu2 (by decide)).trans rfl);have u3:wr.cell? ⟨g,j*9+3,none⟩=some (.int .u8 u.kind.toNat):=HI.o.cell ((flat_get encVert_len _ j 3 u hu2 (by decide)).trans rfl);have u4:wr.cell? ⟨g,j*9+4,none⟩=some (.int .u8 u.file.pid.author.toNat):=HI.o.cell ((flat_get encVert_len _ j 4 u hu2 (by decide)).trans rfl);have u5:wr.cell? ⟨g,j*9+5,none⟩=some (.int .u16 u.file.pid.seq.toNat):=HI.o.cell ((flat_get encVert_len _ j 5 u hu2 (by decide)).trans rfl);have u6:wr.cell? ⟨g,j*9+6,none⟩=some (.int .u8 u.file.n.toNat):=HI.o.cell ((flat_get encVert_len _ j 6 u hu2 (by decide)).trans rfl);have u7:wr.cell? ⟨g,j*9+7,none⟩=some (.string u.text):=HI.o.cell ((flat_get encVert_len _ j 7 u hu2 (by decide)).trans rfl);have u8:wr.cell? ⟨g,j*9+8,none⟩=some (.bool u.dead):=HI.o.cell ((flat_get encVert_len _ j 8 u hu2 (by decide)).trans rfl);clear hu hu2;go_upto_region 8 with fail;have HA7:=Lh (anw wr (cX u) 86);have HB7:=Lh (bnew (w:=wr) (.cells (cX u) 86));generalize wr.alloc (.cells (cX u) 86)=w7 at *;clear u0 u1 u2 u3 u4 u5 u6 u7 u8;obtain⟨y0,y1,y2,y3,y4,y5,y6,y7,y8,sy⟩:=HA7.o.c9;go_wp2_with fail;refine(deadFn_any u _).mono ?_;rintro e w8 ⟨rfl,hb8⟩;have HB8:=Lh (bvo HB7.o hb8);have HA8:=Lh (HA7.o.over hb8);have HI8:=Lh (HI.o.over HB8.o);have HG8:=Lh (gtr HG.o (grown_of_below HB8.o (row:=some g)));clear hb8 y0 y1 y2 y3 y4 y5 y6 y7 y8 sy;obtain⟨z0,z1,z2,z3,z4,z5,z6,z7,z8,sz⟩:=HA8.o.c9;cases hf:u.dead with
 | true =>
  have HK:=Lh (kept_no HU.o hf);clear hf;go_wp2;go_roundw
  case rel=>exact⟨m,j+1,zs,hlt,by omega,rfl,by go_num,hz,(by show _=_;rw [HK.o];exact HT.o),Lh (fun i hi=>HJ.o i (by omega)),HI8,HG8⟩
  simp [intOf];omega
 | false =>
  have HK:=Lh (kept_yes HU.o hf);have hml:m<zs.length:=by omega
  have HFs:=Lh (flat_set encVert_len zs m u hml);have hel:=encVert_len u;have hone:=oneVert u;clear hf;go_wp2_with ((with_reducible show wpList _ _ _ ({dst:=_,op:=.store _ _ _,type:=_,pos:=_,after:=_,guard:=_} :: _) _ _);(refine wpList_store_own rowVert rfl _ _ rfl HI8.o (m*9) (encVert u) rfl rfl rfl (by rw [hel];omega) hone ?_);intro w9 hI9 hg9 hs9);have HI9:Hid (OwnAt w9 B 86 9 g xs.length cap ((zs.set m u).flatMap encVert)):=by show OwnAt _ _ _ _ _ _ _ _;rw [HFs.o,show(m+1)*9=m*9+(encVert u).length by rw [hel];omega];exact hI9
  have HG9:=Lh (gtr HG8.o hg9);clear hI9 hg9;go_wp2;go_roundw
  case rel=>exact⟨m+1,j+1,zs.set m u,hlt,by omega,by go_num,by go_num,by simpa using hz,(by show _=_;rw [take_set_end hml,HK.o,HT.o]),Lh (fun i hi=>by rw [List.getElem?_set,if_neg (by omega)];exact HJ.o i (by omega)),HI9,HG9⟩
  simp [intOf];omega
theorem laterCmpG(a b:VertM)(w:World):Calls Tryz.prog 117 #[vertV a,vertV b] w fun e w'=>e=.returned (.int .i64 (cmpLater b.id a.id))∧Grew w w':=by have HA:=Lh ((anw w (cX a) 86).alloc (.cells (cX b) 86));have HC:=Lh (an2 w (.cells (cX a) 86) (cX b) 86);have HB:=Lh (((Grew.refl w).alloc (.cells (cX a) 86)).alloc (.cells (cX b) 86));unfold vertV;go_enter Tryz.func117,Tryz.ntmps117;go_upto_region 1 with fail;generalize (w.alloc (.cells (cX a) 86)).alloc (.cells (cX b) 86)=w0 at *;obtain⟨c0,c1,c2,c3,c4,c5,c6,c7,c8,sc⟩:=HA.o.c9;obtain⟨d0,d1,d2,d3,d4,d5,d6,d7,d8,sd⟩:=HC.o.c9;go_wp2_with fail;refine(vlaterG b.id a.id _).mono ?_;rintro e w1 ⟨rfl,hg⟩;have HG:=Lh (HB.o.trans hg);clear hg;go_wp2;go_ret;exact⟨rfl,HG.o⟩
theorem later_neg(x y:VertM):(cmpLater y.id x.id<0)=(revK x.id<revK y.id):=by have h1:=laterK_lt x.id;have h2:=laterK_lt y.id;unfold cmpLater revK;rw [cmpN_neg];refine propext ⟨fun h => ?_,fun h => ?_⟩ <;> omega
theorem sortLater_any{w:World}{g cap:Nat}(h:OwnAt w B 86 9 g xs.length cap (xs.flatMap encVert))(hn:xs.length≤1000000000) :
  Calls Tryz.prog 101 #[.slice (some ⟨g,0,none⟩) xs.length cap,.func (.func 117) #[] #[]] w (SortRes (fun a b=>cmpLater b.id a.id) encVert 9 86 w B g cap xs):=by have hcon:=sortF_any (P:=Tryz.prog) Tryz.sortVert (k:=9) (enc:=encVert) Tryz.isAgg86 Tryz.sizeOf86 (fun _=>rfl) oneVert (fun a b=>cmpLater b.id a.id) (swo_key (fun x:VertM=>revK x.id) _ later_neg) 117 (enters_of Tryz.func117 (by kernel_rfl) rfl) (fun x y W=>laterCmpG x y W) h (by omega);exact hcon
theorem aliveM_q(L:List PatchM)(f:VidM):(ofM L f 2).filter aliveQ=aliveM L f:=by unfold aliveQ;rfl
theorem ofM_len(L:List PatchM)(f:VidM)(k:UInt8):(ofM L f k).length≤(idsM L).length:=Nat.le_trans (List.length_filter_le _ _) (by unfold vertsM;rw [List.length_map];exact Nat.le_refl _)
attribute [local irreducible] ofM aliveM namesM idsM
theorem nof_any(b:Nat)(L:List PatchM)(file:VidM)(w:World)(hg:GrIs w b L)(hw:WfG L)(hil:(idsM L).length≤1000000) :
  Calls Tryz.prog 68 #[.pointer (some ⟨b,0,none⟩),vidV file] w (OwnRes encVert 9 86 w (namesM L file)):=by
 have HF:=Lh (anw w (cV file) 27);have HB:=Lh (bnew (w:=w) (.cells (cV file) 27));have HG:=Lh hg;have HW:=Lh hw;have HQ:=Lh (aliveM_q L file);have hol:=ofM_len L file 2;have HE:=Lh (fun(out:List VertM) (hp:out.Perm (aliveM L file)) hs=>names_eq (wf_len hw) file hp hs);clear hg hw;unfold vidV;go_enter Tryz.func68,Tryz.ntmps68;go_upto_region 1 with fail;generalize w.alloc (.cells (cV file) 27)=w0 at *;obtain⟨c0,c1,c2,sc⟩:=HF.o.c3;go_wp2_with fail;refine(gof_any b L file 2 _ (HG.o.over HB.o) HW.o hil).mono ?_;rintro e w1 ⟨v1,rfl,ho1,hb1⟩;have HB1:=Lh (bvo HB.o hb1);have HV1:Hid (∀ k,v1.ownBlock=some k→w.heap.size≤k):=fun k hk=>Nat.le_trans HB.o.size (gown_base ho1 hk);have HO1:=Lh ho1;clear hb1 ho1;go_wp2_with fail;refine(delete_any HO1.o (by omega)).mono ?_;rintro e w2 ⟨v2,rfl,ho2,hg2⟩;rw [HQ.o] at ho2;have HB2:=Lh (HB1.o.grown hg2 HB1.o.size HV1.o);have HO2:=Lh (ho2.base HB.o.size);have hal:(aliveM L file).length≤1000000:=by rw [← HQ.o];exact Nat.le_trans (List.length_filter_le _ _) (by omega)
 clear ho2 hg2 HV1;rcases own_cases HO2.o with⟨h0,p,c,rfl⟩|⟨hne,g,cap,rfl,hA⟩
 · have HN:Hid (([]:List VertM)=namesM L file):=HE.o [] (by rw [h0]) List.Pairwise.nil;go_wp2_with fail;refine(sortVert_none _ _ _ _).mono ?_;rintro e w3 ⟨rfl,hw3⟩;obtain rfl:=hw3.symm;go_wp2;go_ret;exact⟨_,rfl,(by rw [← HN.o,← h0];exact HO2.o),HB2.o⟩
 have HAt:=Lh hA;clear hA;go_wp2_with fail;refine(sortLater_any HAt.o (by omega)).mono ?_;rintro e w3 ⟨rfl,ys,hp,hs,hA3,hg3⟩;have HN:=Lh (HE.o ys hp (hs.imp fun h=>by simpa using h));have hyl:=hp.length_eq;have HO3:Hid (GOwn encVert 9 86 w3 w.heap.size (.slice (some ⟨g,0,none⟩) (aliveM L file).length cap) ys):=by show World.ownsRow _ _ _ _ _ _ _;rw [hyl];exact hA3.own
 have HG3:=Lh hg3;clear hp hs hA3 hg3 hyl;go_wp2;go_ret;exact⟨_,rfl,(by rw [← HN.o];exact HO3.o),HB2.o.grown HG3.o HB2.o.size fun k hk=>by cases hk;exact HAt.o.base⟩
end Go.Proofs.YtanfebljiblhbaaGreatDoor
namespace Go.Proofs.YtanfebljiblhbaaGreatDoor
open Go Go.RowKit
def atL(at':List VidM)(j m:Nat):List VidM:=at'++List.replicate (m - j) noVid
section
variable {P : Program} {ty : TypeId} {size : Nat} {w : World} {ops : Array Oper} {rest : List Oper} {o : Oper} {a : Act} {Q : Exit → Act → World → Prop}
end
attribute [local irreducible] keptV1 textAt aliveX atL
end Go.Proofs.YtanfebljiblhbaaGreatDoor
namespace Go.Proofs.YtanfebljiblhbaaGreatDoor
open Go Go.RowKit
end Go.Proofs.YtanfebljiblhbaaGreatDoor
namespace Go.Proofs.YtanfebljiblhbaaGreatDoor
open Go Go.RowKit
def markA:ByteArray:=⟨#[60,60,60,60,60,60,60]⟩
def markS:ByteArray:=⟨#[61,61,61,61,61,61,61]⟩
def markT:ByteArray:=⟨#[124,124,124,124,124,124,124]⟩
def markE:ByteArray:=⟨#[62,62,62,62,62,62,62]⟩
mutual
def seenOne(l:List VertM):BlkM→List ByteArray
 | .mk k n s=>if k=1 then(if 0≤n∧n<(l.length:Int) then [textAt l n.toNat] else []) else if k=4 then seenAll l s else if k=2 then markA :: (seenJoin l markS true s++[markE]) else if k=3 then markA :: (seenJoin l markT true s++[markE]) else []
def seenAll(l:List VertM):List BlkM→List ByteArray
 | []=>[]
 | b :: r=>seenOne l b++seenAll l r
def seenJoin(l:List VertM)(m:ByteArray)(first:Bool):List BlkM→List ByteArray
 | []=>[]
 | b :: r=>(if first then [] else [m])++(seenOne l b++seenJoin l m false r)
end
theorem seenOne_mk(l:List VertM)(k n:Int)(s:List BlkM):seenOne l (.mk k n s)=if k=1 then(if 0≤n∧n<(l.length:Int) then [textAt l n.toNat] else []) else if k=4 then seenAll l s else if k=2 then markA :: (seenJoin l markS true s++[markE]) else if k=3 then markA :: (seenJoin l markT true s++[markE]) else []:=by rw [seenOne]
theorem seenAll_nil(l:List VertM):seenAll l []=[]:=by rw [seenAll]
theorem seenAll_cons(l:List VertM)(b:BlkM)(r:List BlkM):seenAll l (b :: r)=seenOne l b++seenAll l r:=by rw [seenAll]
theorem seenJoin_nil(l:List VertM)(m:ByteArray)(f:Bool):seenJoin l m f []=[]:=by rw [seenJoin]
theorem seenJoin_cons(l:List VertM)(m:ByteArray)(f:Bool)(b:BlkM)(r:List BlkM):seenJoin l m f (b :: r)=(if f then [] else [m])++(seenOne l b++seenJoin l m false r):=by rw [seenJoin]
end Go.Proofs.YtanfebljiblhbaaGreatDoor
namespace Go.Proofs.YtanfebljiblhbaaGreatDoor
open Go Go.RowKit
section
theorem one_size{sub:List BlL}{x:BlL}(h:x∈sub):SizeOf.sizeOf [x]≤SizeOf.sizeOf sub:=by
 induction sub with
 | nil=>exact absurd h (List.not_mem_nil)
 | cons y r ih =>
  rcases List.mem_cons.1 h with rfl|h
  ·
   simp only [List.cons.sizeOf_spec,List.nil.sizeOf_spec];have:1≤SizeOf.sizeOf r:=by cases r <;> simp <;> omega
   omega
  · have:=ih h;simp only [List.cons.sizeOf_spec] at *;omega
attribute [local irreducible] seenJoin seenAll seenOne bareL bareB
end
section
theorem bareB_mk(k n:Int)(sv:Value)(s:List BlL):bareB (.mk k n sv s)=.mk k n (bareL s):=by unfold bareB;rfl
attribute [local irreducible] seenJoin seenAll seenOne bareL bareB
end
section
variable{R:List (Nat × Nat)}{α:Type}
def sumN:List Nat→Nat
 | []=>0
 | x :: l=>x+sumN l
theorem sumN_append:∀ a b:List Nat,sumN (a++b)=sumN a+sumN b
 | [],b=>by simp [sumN]
 | x :: a,b=>by rw [List.cons_append,sumN,sumN,sumN_append a b];omega
theorem count_one{β:Type}(P:α→β→Bool)(x:β):∀ {hs:List α},hs.Pairwise (fun a b=>∀ x,¬ (P a x=true∧P b x=true))→hs.countP (fun h=>P h x)≤1
 | [],_=>by simp
 | h :: hs,hp=>by
  obtain⟨h1,h2⟩:=List.pairwise_cons.1 hp;have ih:=count_one P x h2;rw [List.countP_cons];cases hx:P h x with
  | false=>simp;exact ih
  | true =>have:hs.countP (fun h=>P h x)=0:=List.countP_eq_zero.2 fun g hg hgx=>h1 g hg x ⟨hx,hgx⟩;simp [this]
theorem sum_count{β:Type}(P:α→β→Bool){hs:List α}(hp:hs.Pairwise (fun a b=>∀ x,¬ (P a x=true∧P b x=true))):∀ xs:List β,sumN (hs.map fun h=>(xs.filter (P h)).length)≤xs.length
 | []=>by
  have:∀ hs:List α,sumN (hs.map fun h=>(([]:List β).filter (P h)).length)=0:=by
   intro hs;induction hs with
   | nil=>rfl
   | cons a hs ih=>rw [List.map_cons,sumN,ih];rfl
  rw [this];exact Nat.zero_le _
 | x :: xs=>by
  have ih:=sum_count P hp xs;have h1:=count_one P x hp;have:∀ hs:List α,sumN (hs.map fun h=>((x :: xs).filter (P h)).length)=sumN (hs.map fun h=>(xs.filter (P h)).length)+hs.countP (fun h=>P h x):=by
   intro hs;induction hs with
   | nil=>rfl
   | cons a hs ih2 =>rw [List.map_cons,List.map_cons,sumN,sumN,ih2,List.countP_cons,List.filter_cons];cases P a x <;> simp <;> omega
  rw [this,List.length_cons];omega
theorem sides_sum(R:List (Nat × Nat))(l:List Nat):sumN ((sidesM R l).map List.length)≤l.length:=by
 unfold sidesM;rw [List.map_map];have hp:(headsM R l l.length).Pairwise (fun a b=>∀ x,¬ (nearD R l a x=true∧nearD R l b x=true)):=by unfold headsM;refine((List.pairwise_lt_range (n:=l.length)).filter _).imp_of_mem ?_;intro a b _ hb hab x hx;have hb2:=headB_iff.1 (List.mem_filter.1 hb).2;exact hb2 a hab ((nearD_iff.1 hx.1).trans (nearD_iff.1 hx.2).symm)
 have:=sum_count (nearD R l) hp (List.range l.length);rw [List.length_range] at this;exact this
theorem sides_pos{l:List Nat}{s:List Nat}(hs:s∈sidesM R l):0<s.length:=by unfold sidesM at hs;obtain⟨i,hi,rfl⟩:=List.mem_map.1 hs;have hi2:=(mem_heads.1 hi).1;exact List.length_pos_of_mem (mem_sideM.2 (.self hi2))
theorem sides_some{l:List Nat}(h:0<l.length):0<(sidesM R l).length:=by unfold sidesM;rw [List.length_map];exact List.length_pos_of_mem (a:=0) (mem_heads.2 ⟨h,headB_iff.2 fun k hk=>absurd hk (by omega)⟩)
theorem pieces_sum(R:List (Nat × Nat))(l:List Nat):∀ k,k≤l.length→sumN ((piecesTo R l k).1.map List.length)=(piecesTo R l k).2∧∀ p∈(piecesTo R l k).1,0<p.length∧p.length≤k
 | 0,_=>⟨rfl,fun p hp=>absurd hp (List.not_mem_nil)⟩
 | k+1,hk=>by
  obtain⟨h1,h2⟩:=pieces_sum R l k (by omega);have h3:=pieces_at R l k
  by_cases h:k+1=l.length∨cutB R l (k+1)=true
  ·
   rw [pieces_yes h];have hl:((l.take (k+1)).drop (piecesTo R l k).2).length=k+1 - (piecesTo R l k).2:=(by rw [List.length_drop,List.length_take];omega);refine⟨?_,fun p hp => ?_⟩
   · show sumN (((piecesTo R l k).1++[(l.take (k+1)).drop (piecesTo R l k).2]).map List.length)=k+1;rw [List.map_append,sumN_append,h1,List.map_cons,List.map_nil,sumN,sumN,hl];omega
   rcases List.mem_append.1 hp with hp|hp
   · have:=h2 p hp;omega
   rw [List.mem_singleton.1 hp,hl];omega
  rw [pieces_no h];exact⟨h1,fun p hp=>by have:=h2 p hp;omega⟩
theorem seenAll_sum(l:List VertM):∀ bs:List BlkM,(seenAll l bs).length=sumN (bs.map fun b=>(seenOne l b).length)
 | []=>by rw [seenAll_nil];rfl
 | b :: bs=>by rw [seenAll_cons,List.length_append,seenAll_sum l bs];rfl
theorem seenJoin_sum(l:List VertM)(m:ByteArray):∀(bs:List BlkM) (f:Bool),(seenJoin l m f bs).length≤sumN (bs.map fun b=>(seenOne l b).length)+bs.length
 | [],f=>by rw [seenJoin_nil];exact Nat.zero_le _
 | b :: bs,f=>by have:=seenJoin_sum l m bs false;rw [seenJoin_cons,List.length_append,List.length_append,List.map_cons,sumN,List.length_cons];cases f <;> simp <;> omega
theorem seen_line(l:List VertM)(i:Nat):(seenOne l (lineB i)).length≤1:=by unfold lineB;rw [seenOne_mk,if_pos rfl];split <;> simp
theorem sum_lines(l:List VertM):∀ t:List Nat,sumN ((t.map lineB).map fun b=>(seenOne l b).length)≤t.length
 | []=>Nat.le_refl _
 | i :: t=>by have h1:=sum_lines l t;have h2:=seen_line l i;rw [List.map_cons,List.map_cons,sumN,List.length_cons];omega
theorem sum_le(f g:α→Nat):∀ xs:List α,(∀ x∈xs,f x+3≤4*g x)→sumN (xs.map f)+3*xs.length≤4*sumN (xs.map g)
 | [],_=>Nat.le_refl _
 | x :: xs,h=>by have h1:=h x (List.mem_cons_self ..);have h2:=sum_le f g xs fun y hy=>h y (List.mem_cons_of_mem _ hy);rw [List.map_cons,List.map_cons,sumN,sumN,List.length_cons];omega
theorem seenJoin_first(l:List VertM)(m:ByteArray){bs:List BlkM}(h:0<bs.length):(seenJoin l m true bs).length+1≤sumN (bs.map fun b=>(seenOne l b).length)+bs.length:=by
 cases bs with
 | nil=>exact absurd h (by simp)
 | cons b bs =>have:=seenJoin_sum l m bs false;rw [seenJoin_cons,List.length_append,List.length_append,List.map_cons,sumN,List.length_cons];simp;omega
theorem things_len(l s:List Nat):(thingsM l s).length=s.length:=by unfold thingsM;rw [List.length_map]
theorem piece_seen(l:List VertM)(R:List (Nat × Nat))(F:List Nat→List BlkM)(p:List Nat)(hp:0<p.length)(hF:∀ t:List Nat,t.length<p.length→0<t.length→(seenAll l (F t)).length+3≤4*t.length):(seenOne l (pieceM R F p)).length+3≤4*p.length:=by
 by_cases h1:p.length=1
 · unfold pieceM;rw [if_pos h1];have:=seen_line l (p.getD 0 0);omega
 by_cases h2:(sidesM R p).length=1
 · unfold pieceM;rw [if_neg h1,if_pos h2,seenOne_mk];rw [if_neg (by decide),if_neg (by decide),if_neg (by decide),if_pos rfl];have h3:=seenJoin_first l markT (bs:=p.map lineB) (by rw [List.length_map];exact hp);have h4:=sum_lines l p;rw [List.length_map] at h3;rw [List.length_cons,List.length_append,List.length_singleton];omega
 unfold pieceM;rw [if_neg h1,if_neg h2,seenOne_mk];rw [if_neg (by decide),if_neg (by decide),if_pos rfl];have h0:=sides_some (R:=R) hp;have h3:=seenJoin_first l markS (bs:=(sidesM R p).map fun s=>BlkM.mk 4 0 (F (thingsM p s))) (by rw [List.length_map];exact h0);rw [List.length_map,List.map_map] at h3;have h4:=sum_le (fun s=>(seenOne l (BlkM.mk 4 0 (F (thingsM p s)))).length) List.length (sidesM R p) fun s hs=>by rw [seenOne_mk,if_neg (by decide),if_pos rfl];have h6:=sides_less h2 hs;have h7:=sides_pos hs;have h8:=hF (thingsM p s) (by rw [things_len];exact h6) (by rw [things_len];exact h7);rw [things_len] at h8;exact h8
 have h5:=sides_sum R p;have h6:sumN ((sidesM R p).map ((fun b=>(seenOne l b).length) ∘ fun s=>BlkM.mk 4 0 (F (thingsM p s))))=sumN ((sidesM R p).map fun s=>(seenOne l (BlkM.mk 4 0 (F (thingsM p s)))).length):=rfl;rw [h6] at h3;rw [List.length_cons,List.length_append,List.length_singleton];omega
theorem pieces_end{t:List Nat}(h:0<t.length):(piecesM R t)≠[]∧sumN ((piecesM R t).map List.length)=t.length:=by
 obtain⟨k,hk⟩:∃ k,t.length=k+1:=⟨t.length - 1,by omega⟩;have h1:=pieces_yes (R:=R) (l:=t) (k:=k) (.inl hk.symm);have h2:=(pieces_sum R t t.length (Nat.le_refl _)).1;unfold piecesM;refine⟨?_,?_⟩
 · rw [hk,h1];simp
 rw [h2,hk,h1]
theorem seen_bound(l:List VertM)(R:List (Nat × Nat)):∀(f:Nat) (t:List Nat),t.length<f→0<t.length→(seenAll l (blkM R f t)).length+3≤4*t.length
 | 0,t,h,_=>absurd h (Nat.not_lt_zero _)
 | f+1,t,h,h0=>by
  obtain⟨h1,h2⟩:=pieces_end (R:=R) h0;rw [blkM,seenAll_sum,List.map_map];have h3:=sum_le (fun p=>(seenOne l (pieceM R (blkM R f) p)).length) List.length (piecesM R t) fun p hp=>by have h4:=(pieces_sum R t t.length (Nat.le_refl _)).2 p hp;exact piece_seen l R (blkM R f) p h4.1 fun u hu hu0=>seen_bound l R f u (by omega) hu0
  have h5:0<(piecesM R t).length:=List.length_pos_iff.2 h1;have h6:sumN ((piecesM R t).map ((fun b=>(seenOne l b).length) ∘ pieceM R (blkM R f)))=sumN ((piecesM R t).map fun p=>(seenOne l (pieceM R (blkM R f) p)).length):=rfl;rw [h6];omega
theorem oddL_sum:∀ bs:List BlkM,oddL bs=sumN (bs.map oddB)
 | []=>by rw [oddL_nil];rfl
 | b :: bs=>by rw [oddL_cons,oddL_sum bs];rfl
theorem odd_lines:∀ t:List Nat,oddL (t.map lineB)=0
 | []=>oddL_nil
 | i :: t=>by rw [List.map_cons,oddL_cons,odd_lines t];unfold lineB;rw [odd_1]
theorem sum_le1(f g:α→Nat):∀ xs:List α,(∀ x∈xs,f x+1≤g x)→sumN (xs.map f)+xs.length≤sumN (xs.map g)
 | [],_=>Nat.le_refl _
 | x :: xs,h=>by have h1:=h x (List.mem_cons_self ..);have h2:=sum_le1 f g xs fun y hy=>h y (List.mem_cons_of_mem _ hy);rw [List.map_cons,List.map_cons,sumN,sumN,List.length_cons];omega
theorem piece_odd(R:List (Nat × Nat))(F:List Nat→List BlkM)(p:List Nat)(hp:0<p.length)(hF:∀ t:List Nat,t.length<p.length→0<t.length→oddL (F t)+1≤t.length):oddB (pieceM R F p)+1≤p.length:=by
 by_cases h1:p.length=1
 · unfold pieceM;rw [if_pos h1];unfold lineB;rw [odd_1];omega
 by_cases h2:(sidesM R p).length=1
 · unfold pieceM;rw [if_neg h1,if_pos h2,odd_23 (.inr rfl),odd_lines];omega
 unfold pieceM;rw [if_neg h1,if_neg h2,odd_23 (.inl rfl),oddL_sum,List.map_map];have h0:=sides_some (R:=R) hp;have h4:=sum_le1 (fun s=>oddB (BlkM.mk 4 0 (F (thingsM p s)))) List.length (sidesM R p) fun s hs=>by rw [odd_0 (by decide) (by decide)];have h6:=sides_less h2 hs;have h7:=sides_pos hs;have h8:=hF (thingsM p s) (by rw [things_len];exact h6) (by rw [things_len];exact h7);rw [things_len] at h8;exact h8
 have h5:=sides_sum R p;have h6:sumN ((sidesM R p).map (oddB ∘ fun s=>BlkM.mk 4 0 (F (thingsM p s))))=sumN ((sidesM R p).map fun s=>oddB (BlkM.mk 4 0 (F (thingsM p s)))):=rfl;rw [h6];omega
theorem odd_bound(R:List (Nat × Nat)):∀(f:Nat) (t:List Nat),t.length<f→0<t.length→oddL (blkM R f t)+1≤t.length
 | 0,t,h,_=>absurd h (Nat.not_lt_zero _)
 | f+1,t,h,h0=>by
  obtain⟨h1,h2⟩:=pieces_end (R:=R) h0;rw [blkM,oddL_sum,List.map_map];have h3:=sum_le1 (fun p=>oddB (pieceM R (blkM R f) p)) List.length (piecesM R t) fun p hp=>by have h4:=(pieces_sum R t t.length (Nat.le_refl _)).2 p hp;exact piece_odd R (blkM R f) p h4.1 fun u hu hu0=>odd_bound R f u (by omega) hu0
  have h5:0<(piecesM R t).length:=List.length_pos_iff.2 h1;have h6:sumN ((piecesM R t).map (oddB ∘ pieceM R (blkM R f)))=sumN ((piecesM R t).map fun p=>oddB (pieceM R (blkM R f) p)):=rfl;rw [h6];omega
end
noncomputable def lnBlk(l:List VertM)(R:List (Nat × Nat)):List BlkM:=blkM R ((aliveX l R).length+1) (aliveX l R)
noncomputable def lnSeen(l:List VertM)(R:List (Nat × Nat)):List ByteArray:=seenAll l (lnBlk l R)
noncomputable def lnOdd(l:List VertM)(R:List (Nat × Nat)):Nat:=oddL (lnBlk l R)
theorem blk_nil(R:List (Nat × Nat))(f:Nat):blkM R (f+1) []=[]:=by rw [blkM];rfl
theorem ln_few(l:List VertM)(R:List (Nat × Nat)):(lnSeen l R).length≤4*l.length∧lnOdd l R≤l.length:=by
 have h1:=aliveX_len l R;unfold lnSeen lnOdd lnBlk;rcases Nat.eq_zero_or_pos (aliveX l R).length with h|h
 · rw [List.eq_nil_of_length_eq_zero h,show([]:List Nat).length+1=0+1 from rfl,blk_nil,seenAll_nil,oddL_nil];exact⟨Nat.zero_le _,Nat.zero_le _⟩
 have h2:=seen_bound l R ((aliveX l R).length+1) (aliveX l R) (by omega) h;have h3:=odd_bound R ((aliveX l R).length+1) (aliveX l R) (by omega) h;exact⟨by omega,by omega⟩
theorem bins_true{A:Nat→Prop}{w:World}{xs:List BlL}(h:BIns A w xs):BIns (fun _=>True) w xs:=BIns.mono (fun _ _=>trivial) (fun _ _ _ h=>h) xs h
attribute [local irreducible] lnSeen lnOdd aliveX seenAll oddL blkM bareL
end Go.Proofs.YtanfebljiblhbaaGreatDoor
namespace Go.Proofs.YtanfebljiblhbaaGreatDoor
open Go Go.RowKit
structure TLine where
 text:ByteArray
 id:VidM
deriving DecidableEq
def markL7(t:ByteArray):TLine:=⟨t,noVid⟩
def lineT(l:List VertM)(i:Nat):TLine:=⟨textAt l i,(l.getD i noVert).id⟩
mutual
def toldOne(l:List VertM):BlkM→List TLine
 | .mk k n s=>if k=1 then(if 0≤n∧n<(l.length:Int) then [lineT l n.toNat] else []) else if k=4 then toldAll l s else if k=2 then markL7 markA :: (toldJoin l markS true s++[markL7 markE]) else if k=3 then markL7 markA :: (toldJoin l markT true s++[markL7 markE]) else []
def toldAll(l:List VertM):List BlkM→List TLine
 | []=>[]
 | b :: r=>toldOne l b++toldAll l r
def toldJoin(l:List VertM)(m:ByteArray)(first:Bool):List BlkM→List TLine
 | []=>[]
 | b :: r=>(if first then [] else [markL7 m])++(toldOne l b++toldJoin l m false r)
end
theorem toldOne_mk(l:List VertM)(k n:Int)(s:List BlkM):toldOne l (.mk k n s)=if k=1 then(if 0≤n∧n<(l.length:Int) then [lineT l n.toNat] else []) else if k=4 then toldAll l s else if k=2 then markL7 markA :: (toldJoin l markS true s++[markL7 markE]) else if k=3 then markL7 markA :: (toldJoin l markT true s++[markL7 markE]) else []:=by rw [toldOne]
theorem toldAll_nil(l:List VertM):toldAll l []=[]:=by rw [toldAll]
theorem toldAll_cons(l:List VertM)(b:BlkM)(r:List BlkM):toldAll l (b :: r)=toldOne l b++toldAll l r:=by rw [toldAll]
theorem toldJoin_nil(l:List VertM)(m:ByteArray)(f:Bool):toldJoin l m f []=[]:=by rw [toldJoin]
theorem toldJoin_cons(l:List VertM)(m:ByteArray)(f:Bool)(b:BlkM)(r:List BlkM):toldJoin l m f (b :: r)=(if f then [] else [markL7 m])++(toldOne l b++toldJoin l m false r):=by rw [toldJoin]
theorem toldAll_append(l:List VertM):∀ a b:List BlkM,toldAll l (a++b)=toldAll l a++toldAll l b
 | [],b=>by rw [List.nil_append,toldAll_nil,List.nil_append]
 | x :: a,b=>by rw [List.cons_append,toldAll_cons,toldAll_cons,toldAll_append l a b,List.append_assoc]
theorem toldAll_one(l:List VertM)(b:BlkM):toldAll l [b]=toldOne l b:=by rw [toldAll_cons,toldAll_nil,List.append_nil]
theorem toldJoin_snoc(l:List VertM)(m:ByteArray):∀(a:List BlkM) (f:Bool) (b:BlkM),toldJoin l m f (a++[b])=toldJoin l m f a++((if f && a.isEmpty then [] else [markL7 m])++toldOne l b)
 | [],f,b=>by rw [List.nil_append,toldJoin_cons,toldJoin_nil,toldJoin_nil];simp
 | x :: a,f,b=>by rw [List.cons_append,toldJoin_cons,toldJoin_cons,toldJoin_snoc l m a false b];simp
mutual
theorem tldT_one(l:List VertM):∀ b:BlkM,(toldOne l b).map (·.text)=seenOne l b
 | .mk k n s=>by
  have h1:=tldT_all l s;have h2:=tldT_join l markS true s;have h3:=tldT_join l markT true s;rw [toldOne_mk,seenOne_mk];split
  · split <;> rfl
  split
  · exact h1
  split
  · rw [List.map_cons,List.map_append,h2];rfl
  split
  · rw [List.map_cons,List.map_append,h3];rfl
  rfl
theorem tldT_all(l:List VertM):∀ bs:List BlkM,(toldAll l bs).map (·.text)=seenAll l bs
 | []=>by rw [toldAll_nil,seenAll_nil];rfl
 | b :: r=>by rw [toldAll_cons,seenAll_cons,List.map_append,tldT_one l b,tldT_all l r]
theorem tldT_join(l:List VertM)(m:ByteArray)(f:Bool):∀ bs:List BlkM,(toldJoin l m f bs).map (·.text)=seenJoin l m f bs
 | []=>by rw [toldJoin_nil,seenJoin_nil];rfl
 | b :: r=>by rw [toldJoin_cons,seenJoin_cons,List.map_append,List.map_append,tldT_one l b,tldT_join l m false r];cases f <;> rfl
end
inductive OkB (n:Nat):BlkM→Prop
 | line {i:Nat}:i<n→OkB n (.mk 1 (i:Int) [])
 | more {k:Int} {s:List BlkM}:(k=2∨k=3∨k=4)→0<n→(∀ b∈s,OkB n b)→OkB n (.mk k 0 s)
theorem okB_line{n i:Nat}(h:i<n):OkB n (lineB i):=.line h
theorem pieceM_ok{R:List (Nat × Nat)}{n:Nat}{F:List Nat→List BlkM}{p:List Nat}(hp:∀ i∈p,i<n)(h0:0<p.length)(hF:∀ t:List Nat,(∀ i∈t,i<n)→t.length<p.length→∀ b∈F t,OkB n b):OkB n (pieceM R F p):=by
 have hn:0<n:=by
  cases p with
  | nil=>cases h0
  | cons a r=>exact Nat.lt_of_le_of_lt (Nat.zero_le a) (hp a (List.mem_cons_self ..))
 unfold pieceM;split
 · rename_i h1;refine okB_line (hp _ ?_);rw [List.getD_eq_getElem?_getD,List.getElem?_eq_getElem (by omega)];exact List.getElem_mem _
 split
 · refine .more (.inr (.inl rfl)) hn fun b hb => ?_;obtain⟨i,hi,rfl⟩:=List.mem_map.1 hb;exact okB_line (hp i hi)
 rename_i h2;refine .more (.inl rfl) hn fun b hb => ?_;obtain⟨s,hs,rfl⟩:=List.mem_map.1 hb;refine .more (.inr (.inr rfl)) hn fun c hc => ?_;refine hF (thingsM p s) (fun i hi => ?_) (by rw [things_len];exact sides_less h2 hs) c hc;unfold thingsM at hi;obtain⟨k,hk,rfl⟩:=List.mem_map.1 hi;obtain⟨h,hh,rfl⟩:=List.mem_map.1 hs;have hkl:=(mem_sideM.1 hk).right;rw [List.getD_eq_getElem?_getD,List.getElem?_eq_getElem hkl];exact hp _ (List.getElem_mem _)
theorem pieces_in(R:List (Nat × Nat))(t:List Nat):∀ k,k≤t.length→∀ p∈(piecesTo R t k).1,∀ i∈p,i∈t
 | 0,_=>fun p hp=>by rw [pieces_zero] at hp;cases hp
 | k+1,hk=>fun p hp i hi=>by
  unfold piecesTo at hp;simp only at hp;split at hp
  ·
   rcases List.mem_append.1 hp with hp|hp
   · exact pieces_in R t k (by omega) p hp i hi
   rw [List.mem_singleton.1 hp] at hi;exact List.mem_of_mem_take (List.mem_of_mem_drop hi)
  exact pieces_in R t k (by omega) p hp i hi
theorem blk_ok(R:List (Nat × Nat)){n:Nat}:∀(f:Nat) (t:List Nat),(∀ i∈t,i<n)→∀ b∈blkM R f t,OkB n b
 | 0,t,_=>fun b hb=>by rw [blkM] at hb;cases hb
 | f+1,t,ht=>fun b hb=>by rw [blkM] at hb;obtain⟨p,hp,rfl⟩:=List.mem_map.1 hb;unfold piecesM at hp;refine pieceM_ok (fun i hi=>ht i (pieces_in R t _ (Nat.le_refl _) p hp i hi)) ((pieces_sum R t t.length (Nat.le_refl _)).2 p hp).1 fun u hu _=>blk_ok R f u hu
end Go.Proofs.YtanfebljiblhbaaGreatDoor
