/- slices.Sort at []int: the shelf's. Contract of block.sides. A row of blocks that grows: what is in its blocks lies apart from it. Contract of block.piece: the contract of block.Of at shorter lists taken as given. Contract of block.Of. Contract of block.Odd. Contract of edit.kills. -/
import Derived.Test.YtanfebljiblhbaaGreatDoorZLay3
import Derived.Test.YtanfebljiblhbaaGreatDoorZEdB
set_option linter.unusedVariables false
set_option linter.unusedSimpArgs false
namespace Go.Proofs.YtanfebljiblhbaaGreatDoor
open Go Go.RowKit

theorem encI_map(s:List Nat):s.flatMap encI=(s.map Int.ofNat).map (Value.int .i64):=by
 induction s with
 | nil=>rfl
 | cons x s ih=>rw [List.flatMap_cons,ih];rfl
theorem putCells_encI{α:Type}[Inhabited α](enc:α→Value)(d:Array α)(c:Array Value):Go.Sort.putCells enc 0 d c=Go.Sort.putCells id 0 (d.map enc) c:=by
 apply Array.ext_getElem?
 intro t
 simp only [Go.Sort.putCells,Array.getElem?_mapIdx,Array.size_map,Nat.sub_zero,id]
 by_cases h:t<d.size
 ·
  rw [getElem!_pos d t h,getElem!_pos (d.map enc) t (by simpa using h)];simp
 ·
  simp [h]
theorem OwnAt.holdsI{w:World}{B g cap:Nat}{e:TypeId}{s:List Nat}(h:OwnAt w B e 1 g s.length cap (s.flatMap encI)):Go.Sort.Holds (Value.int .i64) w g 0 (s.map Int.ofNat).toArray:=by
 intro j hj
 rw [Nat.zero_add]
 refine⟨?_,h.free j⟩
 refine h.cell ?_
 have hj':j<s.length:=by simpa using hj
 rw [encI_map,List.getElem?_map,List.getElem?_map,List.getElem?_eq_getElem hj',getElem!_pos (s.map Int.ofNat).toArray j hj]
 simp
theorem OwnAt.putI{w:World}{B g cap:Nat}{e:TypeId}{s t:List Nat}(h:OwnAt w B e 1 g s.length cap (s.flatMap encI))(hl:t.length=s.length)(n:Nat)(os:Array Obj) :
  OwnAt (Go.Sort.grow (Go.Sort.putRow (Value.int .i64) (Go.Sort.ahead w n) g 0 (t.map Int.ofNat).toArray) os) B e 1 g s.length cap (t.flatMap encI)∧w.grownBy (Go.Sort.grow (Go.Sort.putRow (Value.int .i64) (Go.Sort.ahead w n) g 0 (t.map Int.ofNat).toArray) os) (some g):=by
 have hlt:=h.lt
 obtain⟨junk,h1,h2⟩:=h.at'
 have hl2:(s.flatMap encI).length=(t.flatMap encI).length:=by rw [encI_map,encI_map];simp [hl]
 have hheap:(Go.Sort.putRow (Value.int .i64) (Go.Sort.ahead w n) g 0 (t.map Int.ofNat).toArray).heap[g]? = some (.cells (t.flatMap encI++junk).toArray e (0,0)):=by
  unfold Go.Sort.putRow Go.Sort.mapBlock
  simp only [Array.getElem?_modify,if_pos]
  have:(Go.Sort.ahead w n).heap=w.heap:=rfl
  rw [this,h1]
  simp only [Option.map_some,Go.Sort.onCells]
  rw [putCells_encI,List.map_toArray,← encI_map,putCells_row _ _ _ hl2]
 refine⟨⟨⟨junk,?_,?_⟩,by rw [← hl2];exact h.len,h.base,h.nc,h.cm⟩,?_⟩
 ·
  rw [Go.Sort.heap_grow_old _ _ (by simp [Go.Sort.putRow,Go.Sort.mapBlock];exact hlt)]
  exact hheap
 ·
  rw [List.length_append,← hl2,← List.length_append];exact h2
 ·
  refine⟨rfl,rfl,rfl,by simp [Go.Sort.putRow,Go.Sort.mapBlock,Go.Sort.ahead],fun i hi hne => ?_⟩
  rw [Go.Sort.heap_grow_old _ _ (by simp [Go.Sort.putRow,Go.Sort.mapBlock];exact hi)]
  unfold Go.Sort.putRow Go.Sort.mapBlock
  simp only [Array.getElem?_modify]
  rw [if_neg (fun e=>hne (by rw [e]))]
  rfl
theorem sortI_eq{s t:List Nat}(hn:s.Nodup)(ht:t.Pairwise (· < ·))(hm:∀ x,x∈t↔x∈s):((s.map Int.ofNat).mergeSort fun x y=>decide (x≤y))=t.map Int.ofNat:=by
 have hperm:=List.mergeSort_perm (s.map Int.ofNat) fun x y=>decide (x≤y)
 have hsort:((s.map Int.ofNat).mergeSort fun x y=>decide (x≤y)).Pairwise fun a b=>decide (a≤b)=true:=List.pairwise_mergeSort (fun a b c h1 h2=>by simp only [decide_eq_true_eq] at *;omega) (fun a b=>by simp only [Bool.or_eq_true,decide_eq_true_eq];omega) _
 have hnd:((s.map Int.ofNat).mergeSort fun x y=>decide (x≤y)).Nodup:=hperm.nodup_iff.2 ((List.pairwise_map).2 (hn.imp fun h e=>h (Int.ofNat.inj e)))
 have hmem:∀ z,z∈((s.map Int.ofNat).mergeSort fun x y=>decide (x≤y))↔z∈s.map Int.ofNat:=fun z=>hperm.mem_iff
 refine rises_ext (key:=Int.toNat) ?_ ?_ fun z => ?_
 ·
  have h2:=List.pairwise_and_iff.2 ⟨hsort,hnd⟩
  refine h2.imp_of_mem fun {a b} ha hb h => ?_
  obtain⟨x,_,rfl⟩:=List.mem_map.1 ((hmem a).1 ha)
  obtain⟨y,_,rfl⟩:=List.mem_map.1 ((hmem b).1 hb)
  have h3:=h.1
  have h4:=h.2
  simp only [decide_eq_true_eq] at h3
  show x<y
  have:x≠y:=fun e=>h4 (by rw [e])
  have h5:(x:Int)≤(y:Int):=h3
  omega
 ·
  unfold Rises
  rw [List.pairwise_map]
  exact ht.imp fun h=>h
 ·
  rw [hmem,List.mem_map,List.mem_map]
  exact⟨fun⟨x,h1,h2⟩=>⟨x,(hm x).2 h1,h2⟩,fun⟨x,h1,h2⟩=>⟨x,(hm x).1 h1,h2⟩⟩
def SortIRes(w:World)(B g cap:Nat)(s t:List Nat)(r:Ending)(w':World):Prop:=r=.returned (.tuple #[])∧OwnAt w' B 3 1 g s.length cap (t.flatMap encI)∧w.grownBy w' (some g)
theorem sortI_any{w:World}{B g cap:Nat}{s t:List Nat}(h:OwnAt w B 3 1 g s.length cap (s.flatMap encI))(hn:s.length≤1000000000)(hd:s.Nodup)(ht:t.Pairwise (· < ·))(hm:∀ x,x∈t↔x∈s) :
  Calls Tryz.prog 226 #[.slice (some ⟨g,0,none⟩) s.length cap] w (SortIRes w B g cap s t):=by
 have hcon:=AnyM.slices_Sort_int (P:=Tryz.prog) Tryz.sortInt g 0 cap (s.map Int.ofNat) w h.holdsI h.lt (by rw [List.length_map];omega)
 rw [List.length_map,sortI_eq hd ht hm] at hcon
 refine hcon.mono ?_
 rintro e w' ⟨rfl,n,os,rfl⟩
 have hl:t.length=s.length:=Nat.le_antisymm (nodup_lenN (ht.imp fun h=>Nat.ne_of_lt h) fun x hx=>(hm x).1 hx) (nodup_lenN hd fun x hx=>(hm x).2 hx)
 obtain⟨h1,h2⟩:=h.putI hl n os
 exact⟨rfl,h1,h2⟩
end Go.Proofs.YtanfebljiblhbaaGreatDoor
namespace Go.Proofs.YtanfebljiblhbaaGreatDoor
open Go Go.RowKit

/-- a side as it lies -/
structure SideL where
 s:List Nat
 v:Value
def encSd(x:SideL):List Value:=[x.v]
theorem encSd_len(x:SideL):(encSd x).length=1:=rfl
def seenV(S:Nat→Bool)(n:Nat):List Value:=(List.range n).map fun k=>.int .i64 (if S k then 1 else 0)
theorem seenV_len(S:Nat→Bool)(n:Nat):(seenV S n).length=n:=by unfold seenV;simp
theorem seenV_get{S:Nat→Bool}{n k:Nat}(h:k<n):(seenV S n)[k]? = some (.int .i64 (if S k then 1 else 0)):=by unfold seenV;simp [h]
theorem seenV_zero(n:Nat):seenV (fun _=>false) n=List.replicate n (.int .i64 0):=by unfold seenV;simp [List.map_const']
theorem seenV_set{S S':Nat→Bool}{n k:Nat}(h:∀ q,S' q=if q=k then true else S q):(seenV S n).set k (.int .i64 1)=seenV S' n:=by
 refine List.ext_getElem? fun q => ?_
 rw [List.getElem?_set]
 by_cases hq:q<n
 ·
  rw [seenV_get hq,seenV_get hq,seenV_len,h q]
  by_cases hk:k=q
  ·
   subst hk;simp [hq]
  ·
   have hk':¬ q=k:=fun e=>hk e.symm
   simp only [if_neg hk,if_neg hk']
 ·
  have h1:(seenV S n)[q]? = none:=List.getElem?_eq_none (by rw [seenV_len];omega)
  have h2:(seenV S' n)[q]? = none:=List.getElem?_eq_none (by rw [seenV_len];omega)
  rw [h1,h2,seenV_len]
  split
  ·
   split
   ·
    omega
   ·
    rfl
  ·
   rfl
theorem grown_far{w w1 w2:World}{g g2:Nat}(h:w.grownBy w1 (some g))(hg:w.heap.size≤g2)(h':w1.grownBy w2 (some g2)):w.grownBy w2 (some g):=
 ⟨h'.os.trans h.os,h'.tape.trans h.tape,h'.output.trans h.output,Nat.le_trans h.size h'.size,fun k hk hn=>(h'.block k (Nat.lt_of_lt_of_le hk h.size) (fun e=>by cases e;omega)).trans (h.block k hk hn)⟩
theorem grown_belowS{w w1 w2:World}{g:Nat}(h:w.grownBy w1 (some g))(h':Below w1.heap.size w1 w2):w.grownBy w2 (some g):=
 ⟨h'.os.trans h.os,h'.tape.trans h.tape,h'.output.trans h.output,Nat.le_trans h.size h'.size,fun k hk hn=>(h'.block k (Nat.lt_of_lt_of_le hk h.size)).trans (h.block k hk hn)⟩
theorem own_lit28s{α:Type}{enc:α→List Value}{sz:Nat}(w:World)(e:TypeId)(xs:List α)(B:Nat)(hl:(xs.flatMap enc).length=xs.length*sz)(hm:xs.length≤maxLen)(hB:B≤w.heap.size):GOwn enc sz e (w.alloc (.cells (xs.flatMap enc).toArray e)) B (.slice (some ⟨w.heap.size,0,none⟩) xs.length xs.length) xs:=
 ⟨hl,.inr ⟨w.heap.size,xs.length,(xs.flatMap enc).toArray,rfl,hB,by rw [heap_alloc_new],Nat.le_refl _,hm,by simp [hl],by rw [← hl];exact List.take_length⟩⟩
theorem slSide:SlT Tryz.prog 215 89 1 24:=slT_of Tryz.underlying215 (by kernel_rfl) (by decide)
def SidesRes(w:World)(ss:List (List Nat))(e:Ending)(w':World):Prop:=∃ v xs,e=.returned v∧GOwn encSd 1 89 w' w.heap.size v xs∧(∀ x∈xs,GRow encI 1 w' x.v x.s)∧xs.map (·.s)=ss∧Below w.heap.size w w'
/-- the outer loop -/
structure SiAt (wr w1:World) (gS:Nat) (R:List (Nat × Nat)) (l:List Nat) (i:Nat) (v5:Value) (xs:List SideL):Prop where
 out:GOwn encSd 1 89 wr w1.heap.size v5 xs
 rows:∀ x∈xs,GOwn encI 1 3 wr w1.heap.size x.v x.s
 bare:xs.map (·.s)=(headsM R l i).map (sideM R l)
 seen:ArrT wr gS 3 (seenV (seenB R l i) l.length)
 world:w1.grownBy wr (some gS)
def SiRel(w1:World)(gS:Nat)(R:List (Nat × Nat))(l:List Nat)(v5 v16:Value)(wr:World):Prop:=∃(i:Nat) (xs:List SideL),i≤l.length∧v16=.int .i64 i∧Hid (SiAt wr w1 gS R l i v5 xs)
/-- a side on its way: s in block by block, marked -/
structure SdAt (wq wr:World) (gS:Nat) (R:List (Nat × Nat)) (l:List Nat) (i at' k:Nat) (v8:Value) (s:List Nat):Prop where
 own:GOwn encI 1 3 wq wr.heap.size v8 s
 seen:ArrT wq gS 3 (seenV (markB R l i s) l.length)
 sd:Sd R l i at' k s
 world:wr.grownBy wq (some gS)
theorem SdAt.over{wq wp wr:World}{gS:Nat}{R:List (Nat × Nat)}{l:List Nat}{i at' k:Nat}{v8:Value}{s:List Nat}(h:SdAt wq wr gS R l i at' k v8 s)(hb:Below wq.heap.size wq wp):SdAt wp wr gS R l i at' k v8 s:=
 ⟨h.own.over hb,h.seen.over hb,h.sd,grown_belowS h.world hb⟩
theorem SdAt.go{wq wr:World}{gS:Nat}{R:List (Nat × Nat)}{l:List Nat}{i at' k k':Nat}{v8:Value}{s:List Nat}(h:SdAt wq wr gS R l i at' k v8 s)(hs:Sd R l i at' k' s):SdAt wq wr gS R l i at' k' v8 s:=
 ⟨h.own,h.seen,hs,h.world⟩
/-- a place marked, not yet appended -/
structure SmAt (wq wr:World) (gS:Nat) (R:List (Nat × Nat)) (l:List Nat) (i at' k:Nat) (v8:Value) (s:List Nat):Prop where
 own:GOwn encI 1 3 wq wr.heap.size v8 s
 seen:ArrT wq gS 3 (seenV (markB R l i (s++[k])) l.length)
 sd:Sd R l i at' (k+1) (s++[k])
 world:wr.grownBy wq (some gS)
theorem SdAt.mark{wq wr:World}{gS n1:Nat}{R:List (Nat × Nat)}{l:List Nat}{i at' k:Nat}{v8:Value}{s:List Nat}(h:SdAt wq wr gS R l i at' k v8 s)(hg:gS<wr.heap.size)(_:n1≤wr.heap.size)(hs:Sd R l i at' (k+1) (s++[k])):SmAt (wq.setCell ⟨gS,k,none⟩ (.int .i64 1)) wr gS R l i at' k v8 s:=by
 refine⟨own_set h.own (fun q=>by have:=gown_low h.own q;omega) _ _,?_,hs,grown_trans h.world (grown_setCell _ _ _)⟩
 have h9:=h.seen.set k (.int .i64 1)
 rw [seenV_set (S':=markB R l i (s++[k])) (fun q=>mark_snoc q)] at h9
 exact h9
theorem SmAt.found{wq w9 wr:World}{gS:Nat}{R:List (Nat × Nat)}{l:List Nat}{i at' k:Nat}{v8 v9:Value}{s:List Nat}(h:SmAt wq wr gS R l i at' k v8 s)(ho:GOwn encI 1 3 w9 wr.heap.size v9 (s++[k]))(hg:wq.grownBy w9 v8.ownBlock)(hgs:gS<wr.heap.size):SdAt w9 wr gS R l i at' (k+1) v9 (s++[k]):=by
 refine⟨ho,h.seen.kept hg (fun q => ?_),h.sd,?_⟩
 ·
  have:=gown_low h.own q.symm;omega
 ·
  cases hv:v8.ownBlock with
  | none=>rw [hv] at hg;exact⟨hg.os.trans h.world.os,hg.tape.trans h.world.tape,hg.output.trans h.world.output,Nat.le_trans h.world.size hg.size,fun q hq hn=>(hg.block q (Nat.lt_of_lt_of_le hq h.world.size) (by intro e;cases e)).trans (h.world.block q hq hn)⟩
  | some g2=>rw [hv] at hg;exact grown_far h.world (gown_low h.own hv) hg
theorem iown_more{w:World}{B:Nat}{v:Value}{s:List Nat}{k:Nat}(h:w.ownsRow B 3 1 v (s.length+1) (s.flatMap encI++encI k)):∃(p:Option Addr) (c:Nat),v=.slice p (s++[k]).length c∧GOwn encI 1 3 w B v (s++[k]):=by
 have h2:=GOwn.snoc (x:=k) h
 obtain⟨a,cap,e,_⟩:=irow_at h2.row
 exact⟨a,cap,e,h2⟩
theorem near_lead(R:List (Nat × Nat))(i j:Nat):nearB R i j=(leadB R i j || leadB R j i):=rfl
theorem side_pair(R:List (Nat × Nat))(l:List Nat)(i:Nat):(sideM R l i).Pairwise (· < ·):=by unfold sideM;exact(List.pairwise_lt_range).filter _
theorem heads_few(R:List (Nat × Nat))(l:List Nat)(i:Nat):(headsM R l i).length≤i:=by unfold headsM;exact Nat.le_trans (List.length_filter_le _ _) (by rw [List.length_range];exact Nat.le_refl _)
theorem own_baseS{w:World}{B B':Nat}{e:TypeId}{sz n:Nat}{v:Value}{xs:List Value}(h:w.ownsRow B e sz v n xs)(hB:B'≤B):w.ownsRow B' e sz v n xs:=by
 refine⟨h.1,h.2.imp id ?_⟩
 rintro⟨b,cap,cur,h1,h2,h3⟩
 exact⟨b,cap,cur,h1,Nat.le_trans hB h2,h3⟩
theorem own_byB{α β:Type}{enc:α→List Value}{enc':β→List Value}{sz sz':Nat}{e e':TypeId}{w w':World}{B B':Nat}{v v':Value}{xs:List α}{ys:List β}(h:GOwn enc sz e w B v xs)(h':GOwn enc' sz' e' w B' v' ys)(hn:e≠e')(hgw:w.grownBy w' v'.ownBlock):GOwn enc sz e w' B v xs:=by
 refine own_grown h hgw ?_
 rcases h.2 with⟨rfl,_⟩|⟨g,cap,cur,rfl,_,hg,_⟩
 ·
  exact .inl rfl
 ·
  rcases h'.2 with⟨rfl,_⟩|⟨g',cap',cur',rfl,_,hg',_⟩
  ·
   exact .inr (fun q=>by cases q)
  ·
   refine .inr (fun q => ?_)
   simp only [Value.ownBlock,Option.some.injEq] at q
   subst q
   rw [hg] at hg'
   simp only [Option.some.injEq,Obj.cells.injEq] at hg'
   exact hn hg'.2.1
def SdRel(wr:World)(gS:Nat)(R:List (Nat × Nat))(l:List Nat)(i:Nat)(v8 v9:Value)(wq:World):Prop:=∃(at' c:Nat) (p:Option Addr) (s:List Nat),v9=.int .i64 at'∧at'≤s.length∧v8=.slice p s.length c∧Hid (SdAt wq wr gS R l i at' 0 v8 s)
def SkRel(wr:World)(gS:Nat)(R:List (Nat × Nat))(l:List Nat)(i at':Nat)(v8 v37:Value)(wq:World):Prop:=∃(k c:Nat) (p:Option Addr) (s:List Nat),v37=.int .i64 k∧k≤l.length∧at'<s.length∧v8=.slice p s.length c∧Hid (SdAt wq wr gS R l i at' k v8 s)
attribute [local irreducible] sideM headsM seenB markB headB nearB leadB seenV
set_option maxHeartbeats 16000000 in
set_option maxRecDepth 100000 in
theorem bsides_any(r n:Nat)(R:List (Nat × Nat))(v:Value)(l:List Nat)(w:World)(h:RelAt w r n R)(hv:GRow encI 1 w v l)(hl:∀ i∈l,i≤1000000)(hn:l.length≤1000000)(h0:0<l.length) :
  Calls Tryz.prog 165 #[.pointer (some ⟨r,0,none⟩),v] w (SidesRes w (sidesM R l)):=by
 obtain⟨a,cap,rfl,h1,h2,hc⟩:=irow_at hv
 unfold maxLen at h2
 obtain⟨b,off,rfl,sb,hcb⟩:=hc.resolve_left (by omega)
 obtain⟨m,hmm⟩:∃ m,m=l.length:=⟨_,rfl⟩
 have HC:=Lib.hid hcb
 have HR:=Lib.hid h
 have HL:=Lib.hid hl
 have HZ:=Lib.hid (seenV_zero m)
 have hq:8*m≤281474976710656:=by omega
 have hmx:m≤maxLen:=by unfold maxLen;omega
 rw [← hmm] at h1 hn h0 ⊢
 have HM:=Lib.hid hmm
 clear hv hcb h hl hc hmm
 go_enter Tryz.func165,Tryz.ntmps165
 go_upto_region 3 with(at_make;refine wpList_make_zeros slzIntE rfl _ _ rfl w.heap.size m _ rfl rfl rfl hq hmx (Nat.le_refl _) ?_;intro w1 ho1 hg1)
 have HB1:=Lib.hid (grown_over' hg1 (fun g hg=>by cases hg))
 obtain⟨hA,_⟩:=own_full ho1
 obtain⟨gS,hg⟩:∃ g,g=w.heap.size:=⟨_,rfl⟩
 rw [← hg] at hA ⊢
 rw [← HZ.out] at hA
 have HA:=Lib.hid hA
 have hgl:w.heap.size≤gS:=by omega
 have hs1:=hA.arr.lt
 clear hA ho1 hg1 hg
 have HS0:Hid (SiAt w1 w1 gS R l 0 (.slice none 0 0) []):=Lib.hid ⟨gown_nil _ _,fun x hx=>absurd hx (List.not_mem_nil),by unfold headsM;rfl,(by
  have e:seenB R l 0=fun _=>false:=by funext k;unfold seenB headsM;rfl
  rw [e,← HM.out];exact HA.out),⟨rfl,rfl,rfl,Nat.le_refl _,fun _ _ _=>rfl⟩⟩
 go_wp2_with fail
 go_loopw [5,16] (fun v5 v16 wr=>SiRel w1 gS R l v5 v16 wr) (fun _ v16 _=>m - (intOf v16).toNat)
 case atStart=>exact⟨0,[],by omega,rfl,HS0⟩
 case round =>
  obtain⟨i,xs,hi,rfl,HI⟩:=hrel
  rename World=>wr
  have sg:=HI.out.seen.arr.lt
  by_cases hlt:i<m
  ·
   have c0:=HI.out.seen.arr.cell (seenV_get (S:=seenB R l i) (n:=l.length) (k:=i) (by rw [← HM.out];exact hlt))
   rw [seen_head] at c0
   cases hh:headB R l i with
   | false =>
    have HH:=Lib.hid hh
    have c1:wr.cell? ⟨gS,i,none⟩=some (.int .i64 1):=by rw [c0,hh];rfl
    have HI2:Hid (SiAt wr w1 gS R l (i+1) u5 xs):=Lib.hid ⟨HI.out.out,HI.out.rows,(by rw [HI.out.bare,heads_succ,HH.out];simp),(by rw [seen_next_no HH.out];exact HI.out.seen),HI.out.world⟩
    clear c0 hh
    go_wp2_with fail
    go_roundw
    case rel=>exact⟨i+1,xs,by rw [← HM.out];exact hlt,by go_num,HI2⟩
    case measure=>simp [intOf];omega
   | true =>
    have HH:=Lib.hid hh
    have c1:wr.cell? ⟨gS,i,none⟩=some (.int .i64 0):=by rw [c0,hh];rfl
    clear c0 hh
    have f1:=HI.out.seen.arr.free i
    have ez:(wr.setCell ⟨gS,i,none⟩ (.int .i64 1)).heap.size=wr.heap.size:=by simp
    have HW2:Hid (SdAt ((wr.setCell ⟨gS,i,none⟩ (.int .i64 1)).alloc (.cells #[.int .i64 i] 3)) wr gS R l i 0 0 (.slice (some ⟨wr.heap.size,0,none⟩) [i].length 1) [i]):=Lib.hid ⟨(by
      have h9:=own_lit28s (enc:=encI) (sz:=1) (wr.setCell ⟨gS,i,none⟩ (.int .i64 1)) 3 [i] wr.heap.size rfl (by show 1≤maxLen;unfold maxLen;omega) (by rw [ez];exact Nat.le_refl _)
      rw [ez] at h9
      exact h9),(by
      have h9:=(HI.out.seen.set i (.int .i64 1)).over (below_new (.cells #[.int .i64 i] 3))
      rw [seenV_set (S':=markB R l i [i]) (fun q=>by have:=mark_snoc (R:=R) (l:=l) (i:=i) (k:=i) (s:=[]) q;rw [List.nil_append] at this;rw [this];unfold markB;simp)] at h9
      exact h9),sd_start (by rw [← HM.out];exact hlt),grown_belowS (grown_setCell _ _ _) (below_new _)⟩
    have hil:i<l.length:=by rw [← HM.out];exact hlt
    go_upto_region 9 with(fail)
    generalize hw2:(wr.setCell ⟨gS,i,none⟩ (.int .i64 1)).alloc (.cells #[.int .i64 i] 3)=w2 at *
    clear hw2 c1 sg f1
    go_wp2_with fail
    go_loopw [8,9] (fun v8 v9 wq=>SdRel wr gS R l i v8 v9 wq) (fun _ v9 _=>m - (intOf v9).toNat)
    case atStart=>exact⟨0,1,some ⟨wr.heap.size,0,none⟩,[i],rfl,by simp,rfl,HW2⟩
    case round =>
     obtain⟨at',c,p,s,rfl,hat,rfl,HD⟩:=hrel
     rename World=>wq
     have hsl:=sd_len HD.out.sd
     rw [← HM.out] at hsl
     by_cases hlt2:at'<s.length
     ·
      go_wp2_with fail
      go_loopw [8,37] (fun v8 v37 wp=>SkRel wr gS R l i at' v8 v37 wp) (fun _ v37 _=>m - (intOf v37).toNat)
      case atStart=>exact⟨0,c,p,s,rfl,Nat.zero_le _,hlt2,rfl,HD⟩
      case round =>
       obtain⟨k,c2,p2,s2,rfl,hk,hat2,rfl,HE⟩:=hrel
       rename World=>wp
       rw [← HM.out] at hk
       have hsl2:=sd_len HE.out.sd
       rw [← HM.out] at hsl2
       by_cases hlt3:k<m
       ·
        obtain⟨u,hu⟩:=get_of_lt hat2
        have hul:=(HE.out.sd.near u (List.mem_of_getElem? hu)).right
        obtain⟨xu,hxu⟩:=get_of_lt hul
        obtain⟨xk,hxk⟩:=get_of_lt (xs:=l) (i:=k) (by rw [← HM.out];exact hlt3)
        have hgu:l.getD u 0=xu:=by rw [List.getD_eq_getElem?_getD,hxu];rfl
        have hgk:l.getD k 0=xk:=by rw [List.getD_eq_getElem?_getD,hxk];rfl
        have hxul:=HL.out xu (List.mem_of_getElem? hxu)
        have hxkl:=HL.out xk (List.mem_of_getElem? hxk)
        have hbw:Below w.heap.size w wp:=HB1.out.grown (grown_trans HI.out.world HE.out.world) HB1.out.size (fun k hk=>by cases hk;exact hgl)
        have HRp:=Lib.hid (HR.out.over hbw)
        obtain⟨sl0,l0⟩:=HC.out u xu hxu wp hbw
        have l1:=(HC.out k xk hxk wp hbw).2
        obtain⟨p3,c3,e3,z1,z2,hcs⟩:=irow_at HE.out.own.row
        cases e3
        unfold maxLen at z2
        obtain⟨b2,off2,rfl,sb2,hcs2⟩:=hcs.resolve_left (by omega)
        obtain⟨_,m0⟩:=hcs2 at' u hu wp (Below.refl _ _)
        have d0:=HE.out.seen.arr.cell (seenV_get (S:=markB R l i s2) (n:=l.length) (k:=k) (by rw [← HM.out];exact hlt3))
        have sgp:=HE.out.seen.arr.lt
        have hgr:gS<wr.heap.size:=Nat.lt_of_lt_of_le hs1 HI.out.world.size
        have HHa:=Lib.hid (rchHas_any r n xu xk R _ (HRp.out.over (Below.refl _ _).drew) hxul)
        have HHb:=Lib.hid (rchHas_any r n xk xu R _ (HRp.out.over (Below.refl _ _).drew) hxkl)
        have HU:=Lib.hid hu
        have HNu:Hid (nearB R (l.getD u 0) (l.getD k 0)=(leadB R xu xk || leadB R xk xu)):=Lib.hid (by rw [hgu,hgk];exact near_lead R xu xk)
        have hkl:k<l.length:=by rw [← HM.out];exact hlt3
        have hum:u<m:=by rw [HM.out];exact hul
        clear hu hxu hxk hgu hgk hcs hcs2
        cases hmk:markB R l i s2 k with
        | true =>
         have HN:Hid (Sd R l i at' (k+1) s2):=Lib.hid (sd_no HE.out.sd HU.out (by
          cases hnn:nearB R (l.getD u 0) (l.getD k 0) with
          | false=>exact .inl rfl
          | true =>
           rw [mark_not HH.out HE.out.sd HU.out hkl hnn] at hmk
           exact .inr (List.contains_iff_mem.1 hmk)))
         rw [hmk] at d0
         have d1:wp.cell? ⟨gS,k,none⟩=some (.int .i64 1):=d0
         clear d0 hmk HHa HHb
         go_upto_region 15 with(fail)
         have hcur:Below wp.heap.size wp wp.drew:=(Below.refl _ _).drew
         refine wp_region_lex (C:=IsOver wp) 35 [] (by kernel_rfl) (by kernel_rfl) (isOver_of hcur) ?_
         simp only [List.take_succ_cons,List.take_zero,List.drop_succ_cons,List.drop_zero]
         repeat(first|(refine lex_skip rfl rfl ?_;simp only [Act.put,List.setIfInBounds_toArray,List.set_cons_succ,List.set_cons_zero])|(refine lex_one rfl ?_;go_big_quiet_step (fail);refine wpQuiet_nil ?_)|(refine lex_loud rfl ?_;go_wp2_with (first|(fail));refine⟨isOver_of hcur,?_⟩))
         refine lex_end ?_
         go_wp2_with fail
         go_roundw
         case rel=>exact⟨k+1,c2,_,s2,by go_num,hkl,hat2,rfl,Lib.hid (SdAt.go (HE.out.over hcur) HN.out)⟩
         case measure=>simp [intOf];omega
        | false =>
         have hks:k ∉ s2:=by
          intro hm;unfold markB at hmk
          rw [List.contains_iff_mem.2 hm,Bool.or_true] at hmk;cases hmk
         rw [hmk] at d0
         have d1:wp.cell? ⟨gS,k,none⟩=some (.int .i64 0):=d0
         clear d0 hmk
         cases ha:leadB R xu xk with
         | true =>
          rw [ha] at HHa HNu
          have HN:Hid (Sd R l i at' (k+1) (s2++[k])):=Lib.hid (sd_yes HE.out.sd HU.out HNu.out hkl hks)
          clear hks HHb ha
          go_upto_region 15 with(fail)
          have hcur:Below wp.heap.size wp wp.drew:=(Below.refl _ _).drew
          refine wp_region_lex (C:=IsOver wp) 35 [] (by kernel_rfl) (by kernel_rfl) (isOver_of hcur) ?_
          simp only [List.take_succ_cons,List.take_zero,List.drop_succ_cons,List.drop_zero]
          repeat(first|(refine lex_skip rfl rfl ?_;simp only [Act.put,List.setIfInBounds_toArray,List.set_cons_succ,List.set_cons_zero])|(refine lex_one rfl ?_;go_big_quiet_step (fail);refine wpQuiet_nil ?_)|(refine lex_loud rfl ?_;go_wp2_with (first|(go_at_call 193;(with_reducible refine(HHa.out).mono ?_);rintro e w' ⟨rfl,rfl⟩));refine⟨isOver_of hcur,?_⟩))
          refine lex_end ?_
          have HEw:=Lib.hid (HE.out.over hcur)
          generalize hwp:wp.drew=wo at *
          have d0:=HEw.out.seen.arr.cell (seenV_get (S:=markB R l i s2) (n:=l.length) (k:=k) hkl)
          have d2:=HEw.out.seen.arr.free k
          have sgo:=HEw.out.seen.arr.lt
          have HEm:=Lib.hid (HEw.out.mark hgr (show w1.heap.size≤wr.heap.size from HI.out.world.size) HN.out)
          clear hcur hwp
          go_upto_region 17 with(fail)
          generalize hw3:wo.setCell ⟨gS,k,none⟩ (.int .i64 1)=w3 at *
          clear hw3 d0 d2 sgo
          have hN:s2.length+1≤1099511627776:=by omega
          have hB3:=HEm.out.world.size
          have HO3:=Lib.hid HEm.out.own
          go_wp2_with (at_builtin;(first|refine wpList_append_newD slIntI rfl _ _ rfl wr.heap.size _ _ (drawn_alloc_drewN _ _ _) 1 _ _ _ HO3.out rfl rfl rfl rfl hN (by decide) hB3 ?_|refine wpList_append_newD slIntI rfl _ _ rfl wr.heap.size _ _ (drawn_drew _) 1 _ _ _ HO3.out rfl rfl rfl rfl hN (by decide) hB3 ?_|refine wpList_append_newD slIntI rfl _ _ rfl wr.heap.size _ _ (drawn_drewN _ _) 1 _ _ _ HO3.out rfl rfl rfl rfl hN (by decide) hB3 ?_|refine wpList_append_newD slIntI rfl _ _ rfl wr.heap.size _ _ (drawn_refl _) 1 _ _ _ HO3.out rfl rfl rfl rfl hN (by decide) hB3 ?_);intro v9 w9 ho9 hg9)
          obtain⟨p9,c9,e9,hO9⟩:=iown_more ho9
          subst e9
          go_roundw
          case rel=>exact⟨k+1,c9,p9,s2++[k],by go_num,hkl,by rw [List.length_append];omega,rfl,Lib.hid (HEm.out.found hO9 hg9 hgr)⟩
          case measure=>simp [intOf];omega
         | false =>
          cases hb:leadB R xk xu with
          | true =>
           rw [ha] at HHa HNu
           rw [hb] at HHb HNu
           have HN:Hid (Sd R l i at' (k+1) (s2++[k])):=Lib.hid (sd_yes HE.out.sd HU.out HNu.out hkl hks)
           clear hks ha hb
           go_upto_region 15 with(fail)
           have hcur:Below wp.heap.size wp wp.drew:=(Below.refl _ _).drew
           refine wp_region_lex (C:=IsOver wp) 35 [] (by kernel_rfl) (by kernel_rfl) (isOver_of hcur) ?_
           simp only [List.take_succ_cons,List.take_zero,List.drop_succ_cons,List.drop_zero]
           repeat(first|(refine lex_skip rfl rfl ?_;simp only [Act.put,List.setIfInBounds_toArray,List.set_cons_succ,List.set_cons_zero])|(refine lex_one rfl ?_;go_big_quiet_step (fail);refine wpQuiet_nil ?_)|(refine lex_loud rfl ?_;go_wp2_with (first|(go_at_call 193;(with_reducible refine(HHa.out).mono ?_);rintro e w' ⟨rfl,rfl⟩)|(go_at_call 193;(with_reducible refine(HHb.out).mono ?_);rintro e w' ⟨rfl,rfl⟩));refine⟨isOver_of hcur,?_⟩))
           refine lex_end ?_
           have HEw:=Lib.hid (HE.out.over hcur)
           generalize hwp:wp.drew=wo at *
           have d0:=HEw.out.seen.arr.cell (seenV_get (S:=markB R l i s2) (n:=l.length) (k:=k) hkl)
           have d2:=HEw.out.seen.arr.free k
           have sgo:=HEw.out.seen.arr.lt
           have HEm:=Lib.hid (HEw.out.mark hgr (show w1.heap.size≤wr.heap.size from HI.out.world.size) HN.out)
           clear hcur hwp
           go_upto_region 17 with(fail)
           generalize hw3:wo.setCell ⟨gS,k,none⟩ (.int .i64 1)=w3 at *
           clear hw3 d0 d2 sgo
           have hN:s2.length+1≤1099511627776:=by omega
           have hB3:=HEm.out.world.size
           have HO3:=Lib.hid HEm.out.own
           go_wp2_with (at_builtin;(first|refine wpList_append_newD slIntI rfl _ _ rfl wr.heap.size _ _ (drawn_alloc_drewN _ _ _) 1 _ _ _ HO3.out rfl rfl rfl rfl hN (by decide) hB3 ?_|refine wpList_append_newD slIntI rfl _ _ rfl wr.heap.size _ _ (drawn_drew _) 1 _ _ _ HO3.out rfl rfl rfl rfl hN (by decide) hB3 ?_|refine wpList_append_newD slIntI rfl _ _ rfl wr.heap.size _ _ (drawn_drewN _ _) 1 _ _ _ HO3.out rfl rfl rfl rfl hN (by decide) hB3 ?_|refine wpList_append_newD slIntI rfl _ _ rfl wr.heap.size _ _ (drawn_refl _) 1 _ _ _ HO3.out rfl rfl rfl rfl hN (by decide) hB3 ?_);intro v9 w9 ho9 hg9)
           obtain⟨p9,c9,e9,hO9⟩:=iown_more ho9
           subst e9
           go_roundw
           case rel=>exact⟨k+1,c9,p9,s2++[k],by go_num,hkl,by rw [List.length_append];omega,rfl,Lib.hid (HEm.out.found hO9 hg9 hgr)⟩
           case measure=>simp [intOf];omega
          | false =>
           rw [ha] at HHa HNu
           rw [hb] at HHb HNu
           have HN:Hid (Sd R l i at' (k+1) s2):=Lib.hid (sd_no HE.out.sd HU.out (.inl HNu.out))
           clear hks ha hb
           go_upto_region 15 with(fail)
           have hcur:Below wp.heap.size wp wp.drew:=(Below.refl _ _).drew
           refine wp_region_lex (C:=IsOver wp) 35 [] (by kernel_rfl) (by kernel_rfl) (isOver_of hcur) ?_
           simp only [List.take_succ_cons,List.take_zero,List.drop_succ_cons,List.drop_zero]
           repeat(first|(refine lex_skip rfl rfl ?_;simp only [Act.put,List.setIfInBounds_toArray,List.set_cons_succ,List.set_cons_zero])|(refine lex_one rfl ?_;go_big_quiet_step (fail);refine wpQuiet_nil ?_)|(refine lex_loud rfl ?_;go_wp2_with (first|(go_at_call 193;(with_reducible refine(HHa.out).mono ?_);rintro e w' ⟨rfl,rfl⟩)|(go_at_call 193;(with_reducible refine(HHb.out).mono ?_);rintro e w' ⟨rfl,rfl⟩));refine⟨isOver_of hcur,?_⟩))
           refine lex_end ?_
           go_wp2_with fail
           go_roundw
           case rel=>exact⟨k+1,c2,_,s2,by go_num,hkl,hat2,rfl,Lib.hid (SdAt.go (HE.out.over hcur) HN.out)⟩
           case measure=>simp [intOf];omega
       ·
        obtain rfl:k=m:=by omega
        have HE2:Hid (SdAt wp wr gS R l i (at'+1) 0 (.slice p2 s2.length c2) s2):=Lib.hid ⟨HE.out.own,HE.out.seen,sd_next (by have:=HE.out.sd;rwa [HM.out] at this),HE.out.world⟩
        go_wp2_with fail
        go_roundw
        case rel=>exact⟨at'+1,c2,p2,s2,by go_num,hat2,rfl,HE2⟩
        case measure=>simp [intOf];omega
     ·
      obtain rfl:at'=s.length:=by omega
      have hsp:0<s.length:=List.length_pos_of_mem HD.out.sd.self
      obtain⟨g8,c8,e8,hA8⟩:=own_at (show World.ownsRow _ _ _ _ _ _ _ from HD.out.own) (by omega)
      obtain⟨rfl,hcc,rfl⟩:=Value.slice.inj e8
      clear hcc e8
      have hg8:wr.heap.size≤g8:=gown_low HD.out.own rfl
      have HSE:Hid (∀ x,x∈sideM R l i↔x∈s):=Lib.hid fun x=>mem_sideM.trans (sd_end HD.out.sd x).symm
      have HSP:Hid ((sideM R l i).Pairwise (· < ·)):=Lib.hid (side_pair R l i)
      have HA8:=Lib.hid hA8
      have hgr:gS<wr.heap.size:=Nat.lt_of_lt_of_le hs1 HI.out.world.size
      have hb1r:=HI.out.world.size
      clear hA8
      go_wp2_with fail
      refine(sortI_any HA8.out (by omega) HD.out.sd.nodup HSP.out HSE.out).mono ?_
      rintro e w4 ⟨rfl,hA4,hg4⟩
      have hsl4:(sideM R l i).length=s.length:=Nat.le_antisymm (nodup_lenN (HSP.out.imp fun h=>Nat.ne_of_lt h) fun x hx=>(HSE.out x).1 hx) (nodup_lenN HD.out.sd.nodup fun x hx=>(HSE.out x).2 hx)
      have HW4:Hid (wr.grownBy w4 (some gS)):=Lib.hid (grown_far HD.out.world hg8 hg4)
      have HO4:Hid (GOwn encI 1 3 w4 w1.heap.size (.slice (some ⟨g8,0,none⟩) s.length c) (sideM R l i)):=Lib.hid (by
       have h9:=hA4.own
       unfold GOwn
       rw [hsl4]
       exact own_baseS h9 hb1r)
      have HSn4:Hid (ArrT w4 gS 3 (seenV (seenB R l (i+1)) l.length)):=Lib.hid (by
       have h9:=HD.out.seen.kept hg4 (fun q=>by cases q;omega)
       rw [show markB R l i s=seenB R l (i+1) from funext fun q=>mark_end HH.out HD.out.sd q] at h9
       exact h9)
      have HX4:Hid (GOwn encSd 1 89 w4 w1.heap.size u5 xs):=Lib.hid (own_grown HI.out.out HW4.out (.inr fun q=>by have:=gown_low HI.out.out q;omega))
      have HR4:Hid (∀ x∈xs,GOwn encI 1 3 w4 w1.heap.size x.v x.s):=Lib.hid fun x hx=>own_grown (HI.out.rows x hx) HW4.out (.inr fun q=>by have:=gown_low (HI.out.rows x hx) q;omega)
      have hxl:xs.length≤m:=by
       have h9:=congrArg List.length HI.out.bare
       rw [List.length_map,List.length_map] at h9
       have:=heads_few R l i
       omega
      have hN4:xs.length+1≤1099511627776:=by omega
      have hB4:w1.heap.size≤w4.heap.size:=Nat.le_trans hb1r HW4.out.size
      clear hA4 hg4
      go_wp2_with (at_builtin;(first|refine wpList_append_newD slSide rfl _ _ rfl w1.heap.size _ _ (drawn_alloc_drewN _ _ _) 1 _ _ _ HX4.out rfl rfl rfl rfl hN4 (by decide) hB4 ?_|refine wpList_append_newD slSide rfl _ _ rfl w1.heap.size _ _ (drawn_drew _) 1 _ _ _ HX4.out rfl rfl rfl rfl hN4 (by decide) hB4 ?_|refine wpList_append_newD slSide rfl _ _ rfl w1.heap.size _ _ (drawn_drewN _ _) 1 _ _ _ HX4.out rfl rfl rfl rfl hN4 (by decide) hB4 ?_|refine wpList_append_newD slSide rfl _ _ rfl w1.heap.size _ _ (drawn_refl _) 1 _ _ _ HX4.out rfl rfl rfl rfl hN4 (by decide) hB4 ?_);intro v9 w9 ho9 hg9)
      go_roundw
      case rel =>
       refine⟨i+1,xs++[⟨sideM R l i,.slice (some ⟨g8,0,none⟩) s.length c⟩],by rw [← HM.out];exact hlt,by go_num,Lib.hid ⟨GOwn.snoc (x:=(⟨sideM R l i,.slice (some ⟨g8,0,none⟩) s.length c⟩:SideL)) ho9,fun x hx => ?_,?_,HSn4.out.grown HX4.out (by decide) hg9,?_⟩⟩
       ·
        rcases List.mem_append.1 hx with hx|hx
        ·
         exact own_byB (HR4.out x hx) HX4.out (by decide) hg9
        ·
         rw [List.mem_singleton.1 hx];exact own_byB HO4.out HX4.out (by decide) hg9
       ·
        rw [List.map_append,HI.out.bare,heads_succ,HH.out];simp
       ·
        have hw4:w1.grownBy w4 (some gS):=grown_trans HI.out.world HW4.out
        cases hv:u5.ownBlock with
        | none=>rw [hv] at hg9;exact⟨hg9.os.trans hw4.os,hg9.tape.trans hw4.tape,hg9.output.trans hw4.output,Nat.le_trans hw4.size hg9.size,fun q hq hn=>(hg9.block q (Nat.lt_of_lt_of_le hq hw4.size) (by intro e;cases e)).trans (hw4.block q hq hn)⟩
        | some g2=>rw [hv] at hg9;exact grown_far hw4 (gown_low HX4.out hv) hg9
      case measure=>simp [intOf];omega
  ·
   obtain rfl:i=m:=by have:=HM.out;omega
   have HF:Hid (GOwn encSd 1 89 wr w.heap.size u5 xs∧(∀ x∈xs,GRow encI 1 wr x.v x.s)∧xs.map (·.s)=sidesM R l∧Below w.heap.size w wr):=Lib.hid ⟨HI.out.out.base HB1.out.size,fun x hx=>(HI.out.rows x hx).row,(by rw [HI.out.bare];unfold sidesM;rw [HM.out]),HB1.out.grown HI.out.world HB1.out.size (fun k hk=>by cases hk;exact hgl)⟩
   go_wp2_with fail
   go_ret
   exact⟨_,xs,rfl,HF.out⟩
end Go.Proofs.YtanfebljiblhbaaGreatDoor
namespace Go.Proofs.YtanfebljiblhbaaGreatDoor
open Go Go.RowKit

/-- what is in a block of a row: in blocks from lo on, that are there, and apart from g -/
def Fit(lo:Nat)(w:World)(g:Option Nat)(b:Nat):Prop:=lo≤b∧b<w.heap.size∧some b≠g
structure BX (w:World) (lo:Nat) (v:Value) (xs:List BlL):Prop where
 own:GOwn encBl 3 183 w lo v xs
 ins:BIns (Fit lo w v.ownBlock) w xs
theorem bx_nil(w:World)(lo:Nat):BX w lo (.slice none 0 0) []:=⟨gown_nil _ _,bins_nil⟩
theorem BX.over{w w':World}{lo:Nat}{v:Value}{xs:List BlL}(h:BX w lo v xs)(hb:Below w.heap.size w w'):BX w' lo v xs:=
 ⟨h.own.over hb,BIns.mono (fun b hb'=>⟨hb'.1,Nat.lt_of_lt_of_le hb'.2.1 hb.size,hb'.2.2⟩) (fun _ _ _ h=>h.over hb) xs h.ins⟩
theorem BX.base{w:World}{lo lo':Nat}{v:Value}{xs:List BlL}(h:BX w lo v xs)(hl:lo'≤lo):BX w lo' v xs:=
 ⟨h.own.base hl,BIns.mono (fun b hb'=>⟨by have:=hb'.1;omega,hb'.2⟩) (fun _ _ _ h=>h) xs h.ins⟩
/-- a row of blocks that another block of memory grew: kept -/
theorem grow_keptB{w w':World}{g:Option Nat}(hg:w.grownBy w' g){v:Value}{xs:List BlL}(hb:∀ b,v.ownBlock=some b→some b≠g)(h:GRow encBl 3 w v xs):GRow encBl 3 w' v xs:=by
 obtain⟨h0,a,cap,rfl,h1,h2,h3,h4⟩:=h
 refine⟨h0,a,cap,rfl,h1,h2,h3,fun hp => ?_⟩
 obtain⟨b,off,rfl,hb2,hc⟩:=h4 hp
 have hne:some b≠g:=hb b rfl
 refine⟨b,off,rfl,Nat.lt_of_lt_of_le hb2 hg.size,fun j u hu => ?_⟩
 rw [World.cell?_of_block (w:=w) (w':=w') (a:=⟨b,off+j,none⟩) (hg.block b hb2 hne)]
 exact hc j u hu
/-- a block appended -/
theorem BX.snoc{w w9:World}{lo lo0:Nat}{v v9:Value}{xs:List BlL}{x:BlL}(h:BX w lo v xs)(hx:BIn (fun b=>lo0≤b∧b<w.heap.size∧some b≠v.ownBlock) w x)(hlo:lo≤lo0)
  (ho:GOwn encBl 3 183 w9 lo v9 (xs++[x])) (hg:w.grownBy w9 v.ownBlock) (hk:v9.ownBlock=v.ownBlock∨∃ k,v9.ownBlock=some k∧w.heap.size≤k):BX w9 lo v9 (xs++[x]):=by
 have hne:∀ b,b<w.heap.size→some b≠v.ownBlock→some b≠v9.ownBlock:=by
  intro b hb hn e
  rcases hk with h1|⟨k,h1,h2⟩
  ·
   exact hn (e.trans h1)
  ·
   rw [h1] at e;cases e;omega
 refine⟨ho,bins_append ?_ (bins_one ?_)⟩
 ·
  exact BIns.mono (fun b hb=>⟨hb.1,Nat.lt_of_lt_of_le hb.2.1 hg.size,hne b hb.2.1 hb.2.2⟩) (fun u us hu hr=>grow_keptB hg (fun b hb=>(hu b hb).2.2) hr) xs h.ins
 ·
  exact BIn.mono (fun b hb=>⟨by have:=hb.1;omega,Nat.lt_of_lt_of_le hb.2.1 hg.size,hne b hb.2.1 hb.2.2⟩) (fun u us hu hr=>grow_keptB hg (fun b hb=>(hu b hb).2.2) hr) x hx
theorem fit_own{w:World}{lo:Nat}{v:Value}{xs:List BlL}(h:BX w lo v xs){b:Nat}(hb:v.ownBlock=some b):lo≤b∧b<w.heap.size:=⟨gown_low h.own hb,gown_size h.own hb⟩
/-- a row of blocks as what is in a block -/
theorem BX.block{w:World}{lo:Nat}{v:Value}{xs:List BlL}(h:BX w lo v xs)(k n:Int):BIn (fun b=>lo≤b∧b<w.heap.size) w (.mk k n v xs):=by
 refine bin_mk.2 ⟨h.own.row,?_,fun b hb=>fit_own h hb,BIns.mono (fun b hb=>⟨hb.1,hb.2.1⟩) (fun _ _ _ h=>h) xs h.ins⟩
 rcases h.own.2 with⟨rfl,_⟩|⟨g,cap,cur,rfl,_⟩ <;> rfl
theorem BIn.weak{A A':Nat→Prop}{w:World}{x:BlL}(h:BIn A w x)(hA:∀ b,A b→A' b):BIn A' w x:=BIn.mono hA (fun _ _ _ h=>h) x h
def PcRes(w:World)(m:BlkM)(e:Ending)(w':World):Prop:=∃(k n:Int) (sv:Value) (s:List BlL),e=.returned (.agg #[.int .i64 k,.int .i64 n,sv])∧bareB (.mk k n sv s)=m∧BIn (fun b=>w.heap.size≤b∧b<w'.heap.size) w' (.mk k n sv s)∧Below w.heap.size w w'
def OfRes(w:World)(ms:List BlkM)(e:Ending)(w':World):Prop:=∃ v xs,e=.returned v∧BX w' w.heap.size v xs∧bareL xs=ms∧Below w.heap.size w w'
end Go.Proofs.YtanfebljiblhbaaGreatDoor
namespace Go.Proofs.YtanfebljiblhbaaGreatDoor
open Go Go.RowKit

theorem rowBlk:RowT Tryz.prog 183 3:=rowT_of Tryz.underlying183 rfl (by kernel_rfl)
theorem things_nil(l:List Nat):thingsM l []=[]:=rfl
attribute [local irreducible] sidesM pieceM blkM thingsM
theorem piece_one(R:List (Nat × Nat))(F:List Nat→List BlkM)(i:Nat):pieceM R F [i]=lineB i:=by unfold pieceM;rw [if_pos (show [i].length=1 from rfl)];rfl
theorem piece_knot{R:List (Nat × Nat)}{F:List Nat→List BlkM}{l:List Nat}(h1:l.length≠1)(h2:(sidesM R l).length=1):pieceM R F l=.mk 3 0 (l.map lineB):=by unfold pieceM;rw [if_neg h1,if_pos h2]
theorem piece_fork{R:List (Nat × Nat)}{F:List Nat→List BlkM}{l:List Nat}(h1:l.length≠1)(h2:(sidesM R l).length≠1):pieceM R F l=.mk 2 0 ((sidesM R l).map fun s=>.mk 4 0 (F (thingsM l s))):=by unfold pieceM;rw [if_neg h1,if_neg h2]
set_option maxHeartbeats 8000000 in
set_option maxRecDepth 100000 in
theorem bpiece_one(r:Nat)(R:List (Nat × Nat))(F:List Nat→List BlkM)(v:Value)(i:Nat)(w:World)(hv:GRow encI 1 w v [i]) :
  Calls Tryz.prog 106 #[.pointer (some ⟨r,0,none⟩),v] w (PcRes w (pieceM R F [i])):=by
 obtain⟨a,cap,rfl,h1,h2,hc⟩:=irow_at hv
 unfold maxLen at h2
 obtain⟨b,off,rfl,sb,hcb⟩:=hc.resolve_left (by simp)
 have HA:=Lib.hid (arr_new w #[.int .i64 0,.int .i64 0,.slice none 0 0] 183)
 have HB:=Lib.hid (below_new (w:=w) (.cells #[.int .i64 0,.int .i64 0,.slice none 0 0] 183))
 obtain⟨sl,x0'⟩:=hcb 0 i rfl (w.alloc (.cells #[.int .i64 0,.int .i64 0,.slice none 0 0] 183)) (below_new _)
 have x0:(w.alloc (.cells #[.int .i64 0,.int .i64 0,.slice none 0 0] 183)).cell? ⟨b,off,none⟩=some (.int .i64 i):=x0'
 clear x0'
 have hP:=piece_one R F i
 clear hv hcb hc
 go_enter Tryz.func106,Tryz.ntmps106
 go_upto_region 1 with(fail)
 generalize hw0:w.alloc (.cells #[.int .i64 0,.int .i64 0,.slice none 0 0] 183)=w0 at *
 clear hw0
 have z0:=HA.out.cell (j:=0) rfl
 have z1:=HA.out.cell (j:=1) rfl
 have z2:=HA.out.cell (j:=2) rfl
 have sz:=HA.out.lt
 have f0:=HA.out.free 0
 have f1:=HA.out.free 1
 have f2:=HA.out.free 2
 have HPc:=Lib.hid hP
 clear hP
 go_wp2_with fail
 refine bodyPost_ret (v:=.agg #[.int .i64 1,.int .i64 i,.slice none 0 0]) (results_arr rowBlk rfl (((HA.out.set 0 _).set 1 _).set 2 _) rfl rfl) rfl ?_
 exact⟨1,i,.slice none 0 0,[],rfl,(lineL_bare i).trans HPc.out.symm,lineL_in _ _ i,(((HB.out.setCell (p:=⟨w.heap.size,0,none⟩) (Nat.le_refl _) (.int .i64 1)).setCell (p:=⟨w.heap.size,1,none⟩) (Nat.le_refl _) (.int .i64 i)).setCell (p:=⟨w.heap.size,2,none⟩) (Nat.le_refl _) (.slice none 0 0))⟩
theorem sides_lt{R:List (Nat × Nat)}{l:List Nat}{s:List Nat}(hs:s∈sidesM R l){k:Nat}(hk:k∈s):k<l.length:=by
 unfold sidesM at hs
 obtain⟨i,_,rfl⟩:=List.mem_map.1 hs
 exact(mem_sideM.1 hk).right
theorem things_step{l s:List Nat}{q u y:Nat}(hu:s[q]? = some u)(hy:l[u]? = some y):thingsM l (s.take (q+1))=thingsM l (s.take q)++[y]:=by
 unfold thingsM
 rw [take_one hu,List.map_append,List.map_cons,List.map_nil,List.getD_eq_getElem?_getD,hy];rfl
theorem sides_few(R:List (Nat × Nat))(l:List Nat):(sidesM R l).length≤l.length:=by unfold sidesM;rw [List.length_map];exact heads_few R l l.length
theorem things_le{R:List (Nat × Nat)}{l s:List Nat}(hl:∀ i∈l,i≤1000000)(hs:s∈sidesM R l):∀ i∈thingsM l s,i≤1000000:=by
 intro i hi
 unfold thingsM at hi
 obtain⟨k,hk,rfl⟩:=List.mem_map.1 hi
 have:=sides_lt hs hk
 rw [List.getD_eq_getElem?_getD,List.getElem?_eq_getElem this]
 exact hl _ (List.getElem_mem _)
theorem bare_len{ys:List BlL}{ss:List (List Nat)}{F:List Nat→BlkM}{j:Nat}(h:bareL ys=(ss.take j).map F):ys.length≤j:=by
 have:=congrArg List.length h
 rw [bareL_map,List.length_map,List.length_map,List.length_take] at this
 omega
/-- the sides of a piece made into blocks, as far as side j -/
structure FkAt (wr w2:World) (gb:Nat) (R:List (Nat × Nat)) (l:List Nat) (f:Nat) (xs:List SideL) (j:Nat) (p:Option Addr) (c:Nat) (ys:List BlL):Prop where
 box:ArrT wr gb 183 [.int .i64 2,.int .i64 0,.slice p ys.length c]
 sub:BX wr w2.heap.size (.slice p ys.length c) ys
 bare:bareL ys=((sidesM R l).take j).map fun s=>.mk 4 0 (blkM R f (thingsM l s))
 world:w2.grownBy wr (some gb)
def FkRel(w2:World)(gb:Nat)(R:List (Nat × Nat))(l:List Nat)(f:Nat)(xs:List SideL)(v31:Value)(wr:World):Prop:=∃(j:Nat) (p:Option Addr) (c:Nat) (ys:List BlL),j≤xs.length∧v31=.int .i64 j∧Hid (FkAt wr w2 gb R l f xs j p c ys)
def ThRel(wr:World)(l s:List Nat)(v9 v37:Value)(wq:World):Prop:=∃(q:Nat) (p:Option Addr) (c:Nat),q≤s.length∧v37=.int .i64 q∧v9=.slice p (thingsM l (s.take q)).length c∧Hid (GOwn encI 1 3 wq wr.heap.size (.slice p (thingsM l (s.take q)).length c) (thingsM l (s.take q)))∧Below wr.heap.size wr wq
theorem bareL_snoc(ys:List BlL)(x:BlL):bareL (ys++[x])=bareL ys++[bareB x]:=by rw [bareL_map,bareL_map,List.map_append];rfl
theorem BX.set{w:World}{lo gb k:Nat}{v u:Value}{xs:List BlL}(h:BX w lo v xs)(hg:gb<lo):BX (w.setCell ⟨gb,k,none⟩ u) lo v xs:=by
 refine⟨own_set h.own (fun q=>by have:=gown_low h.own q;omega) _ _,?_⟩
 exact BIns.mono (fun b hb=>⟨hb.1,by have:=hb.2.1;simpa using this,hb.2.2⟩) (fun us ys hu hr=>grow_keptB (grown_setCell (g:=gb) w k u) (fun b hb e=>by cases e;have:=(hu _ hb).1;omega) hr) xs h.ins
/-- one side more -/
theorem FkAt.step{wr wq w2 w5 w6:World}{gb:Nat}{R:List (Nat × Nat)}{l s:List Nat}{f j:Nat}{xs:List SideL}{p p6:Option Addr}{c c6:Nat}{ys ys5:List BlL}{sv5:Value}
  (h:FkAt wr w2 gb R l f xs j p c ys) (hq:Below wr.heap.size wr wq) (h5:Below wq.heap.size wq w5) (hx:BX w5 wq.heap.size sv5 ys5) (hb5:bareL ys5=blkM R f (thingsM l s)) (hs:(sidesM R l)[j]? = some s) (hgb:gb<w2.heap.size) (hwr:w2.heap.size≤wr.heap.size)
  (ho:w6.ownsRow w2.heap.size 183 3 (.slice p6 (ys.length+1) c6) (ys.length+1) (ys.flatMap encBl++[.int .i64 4,.int .i64 0,sv5])) (hg:w5.grownBy w6 (Value.slice p ys.length c).ownBlock)
  (hv:(Value.slice p6 (ys.length+1) c6).ownBlock=(Value.slice p ys.length c).ownBlock∨∃ k,(Value.slice p6 (ys.length+1) c6).ownBlock=some k∧w5.heap.size≤k) :
  FkAt (w6.setCell ⟨gb,2,none⟩ (.slice p6 (ys.length+1) c6)) w2 gb R l f xs (j+1) p6 c6 (ys++[.mk 4 0 sv5 ys5]):=by
 have hsub:=(h.sub.over hq).over h5
 have hlen:(ys++[BlL.mk 4 0 sv5 ys5]).length=ys.length+1:=by simp
 have hxin:BIn (fun b=>wq.heap.size≤b∧b<w5.heap.size∧some b≠(Value.slice p ys.length c).ownBlock) w5 (.mk 4 0 sv5 ys5):=
  BIn.weak (hx.block 4 0) fun b hb=>⟨hb.1,hb.2,fun e=>by
   have:=gown_size h.sub.own e.symm
   have:=hq.size
   omega⟩
 have hown:GOwn encBl 3 183 w6 w2.heap.size (.slice p6 (ys.length+1) c6) (ys++[.mk 4 0 sv5 ys5]):=GOwn.snoc (x:=BlL.mk 4 0 sv5 ys5) ho
 have hnew:=BX.snoc hsub hxin (by have:=hq.size;omega) hown hg hv
 have hbox:=((h.box.over hq).over h5).kept hg (fun e=>by have:=gown_low h.sub.own e.symm;omega)
 refine⟨?_,?_,?_,?_⟩
 ·
  rw [hlen];exact hbox.set 2 _
 ·
  rw [hlen];exact hnew.set hgb
 ·
  rw [bareL_snoc,h.bare,take_one hs,List.map_append,List.map_cons,List.map_nil]
  congr 1
  unfold bareB
  rw [hb5]
 ·
  have hw:w2.grownBy w5 (some gb):=grown_belowS (grown_belowS h.world hq) h5
  refine grown_trans ?_ (grown_setCell _ _ _)
  cases hv2:(Value.slice p ys.length c).ownBlock with
  | none=>rw [hv2] at hg;exact⟨hg.os.trans hw.os,hg.tape.trans hw.tape,hg.output.trans hw.output,Nat.le_trans hw.size hg.size,fun q hq hn=>(hg.block q (Nat.lt_of_lt_of_le hq hw.size) (by intro e;cases e)).trans (hw.block q hq hn)⟩
  | some g2=>rw [hv2] at hg;exact grown_far hw (gown_low h.sub.own hv2) hg
theorem pc_store{w w2 w3:World}{x:BlL}{lo gz:Nat}(h:BIn (fun b=>lo≤b∧b<w2.heap.size) w2 x)(hg:w2.grownBy w3 (some gz))(hz:gz<lo)(hw:w.heap.size≤lo):BIn (fun b=>w.heap.size≤b∧b<w3.heap.size) w3 x:=
 BIn.mono (fun b hb=>⟨Nat.le_trans hw hb.1,Nat.lt_of_lt_of_le hb.2 hg.size⟩) (fun u us hu hr=>grow_keptB hg (fun b hb e=>by cases e;have:=(hu _ hb).1;omega) hr) x h
set_option maxHeartbeats 8000000 in
set_option maxRecDepth 100000 in
theorem bpiece_any(f r n:Nat)(R:List (Nat × Nat))(v:Value)(l:List Nat)(w:World)(h:RelAt w r n R)(hv:GRow encI 1 w v l)(hl:∀ i∈l,i≤1000000)(hn:l.length≤1000000)(h0:0<l.length)(hf:l.length≤f)
  (hOf:∀(t:List Nat) (tv:Value) (W:World),t.length<f→t.length≤1000000→(∀ i∈t,i≤1000000)→RelAt W r n R→GRow encI 1 W tv t→Calls Tryz.prog 53 #[.pointer (some ⟨r,0,none⟩),tv] W (OfRes W (blkM R f t))) :
  Calls Tryz.prog 106 #[.pointer (some ⟨r,0,none⟩),v] w (PcRes w (pieceM R (blkM R f) l)):=by
 by_cases hl1:l.length=1
 ·
  obtain⟨i,rfl⟩:=List.length_eq_one_iff.1 hl1
  exact bpiece_one r R _ v i w hv
 ·
  obtain⟨a,cap,rfl,h1,h2,hc⟩:=irow_at hv
  have hV:=Lib.hid hv
  unfold maxLen at h2
  have HC:=Lib.hid hc
  have HR:=Lib.hid h
  have HL:=Lib.hid hl
  have HOf:=Lib.hid hOf
  have HA:=Lib.hid (arr_new w #[.int .i64 0,.int .i64 0,.slice none 0 0] 183)
  have HB:=Lib.hid (below_new (w:=w) (.cells #[.int .i64 0,.int .i64 0,.slice none 0 0] 183))
  have g1:((l.length:Int) == 1)=false:=by rw [beq_eq_false_iff_ne];omega
  have H1:=Lib.hid hl1
  clear hv h hl hOf hc hl1
  go_enter Tryz.func106,Tryz.ntmps106
  go_upto_region 1 with(fail)
  generalize hw0:w.alloc (.cells #[.int .i64 0,.int .i64 0,.slice none 0 0] 183)=w0 at *
  have hwz:=hw0
  clear hw0
  generalize hgz:w.heap.size=gz at *
  have HGZ:=Lib.hid hgz
  have hgz0:w0.heap.size=gz+1:=by rw [← hwz];simp [hgz]
  clear hwz
  go_wp2_with fail
  refine(bsides_any r n R _ l _ (HR.out.over (by rw [hgz];exact HB.out)) (hV.out.over (by rw [hgz];exact HB.out)) HL.out hn h0).mono ?_
  rintro e w1 ⟨sv,xs,rfl,ho,hrw,hbare,hb1⟩
  rw [hgz0] at ho
  obtain⟨pa,ca,e1,n1,n2,hcx⟩:=ho.row.at encSd_len
  subst e1
  unfold maxLen at n2
  have HX:=Lib.hid ho
  have HCX:=Lib.hid hcx
  have HRW:=Lib.hid hrw
  have HBR:=Lib.hid hbare
  have HB1:=Lib.hid (below_over HB.out (by rw [hgz0];omega) hb1)
  have HA1:=Lib.hid (HA.out.over hb1)
  have hxl:xs.length=(sidesM R l).length:=by have:=congrArg List.length hbare;rwa [List.length_map] at this
  have hz1:gz<w1.heap.size:=HA1.out.lt
  clear ho hrw hbare hb1 hcx
  have y0:=HA1.out.cell (j:=0) rfl
  have y1:=HA1.out.cell (j:=1) rfl
  have y2:=HA1.out.cell (j:=2) rfl
  have sy:=HA1.out.lt
  have k0:=HA1.out.free 0
  have k1:=HA1.out.free 1
  have k2:=HA1.out.free 2
  by_cases hs1:xs.length=1
  ·
   have g2:((xs.length:Int) == 1)=true:=by rw [beq_iff_eq];omega
   have HPk:=Lib.hid (piece_knot (F:=blkM R f) H1.out (hxl▸hs1))
   have HBw1:Hid (Below w.heap.size w w1):=Lib.hid (by rw [HGZ.out];exact HB1.out)
   clear hs1 hxl
   go_wp2_with fail
   refine(bsome_any _ l _ (hV.out.over HBw1.out) hn).mono ?_
   rintro e w2 ⟨v2,rfl,ho2,hb2⟩
   obtain⟨p2,c2,e2,_,_,_⟩:=ho2.row.at encBl_len
   rw [List.length_map] at e2
   subst e2
   have HO2:=Lib.hid ho2
   have HB2:=Lib.hid (below_over HB1.out (by omega) hb2)
   have HA2:=Lib.hid (HA1.out.over hb2)
   have hz2:=hb2.size
   clear ho2 hb2 y0 y1 y2 sy k0 k1 k2
   have y0:=HA2.out.cell (j:=0) rfl
   have y1:=HA2.out.cell (j:=1) rfl
   have y2:=HA2.out.cell (j:=2) rfl
   have sy:=HA2.out.lt
   have k0:=HA2.out.free 0
   have k1:=HA2.out.free 1
   have k2:=HA2.out.free 2
   go_wp2_with fail
   refine bodyPost_ret (v:=.agg #[.int .i64 3,.int .i64 0,.slice p2 l.length c2]) (results_arr rowBlk rfl (((HA2.out.set 0 _).set 1 _).set 2 _) rfl rfl) rfl ?_
   refine⟨3,0,.slice p2 l.length c2,l.map lineL,rfl,?_,?_,?_⟩
   ·
    rw [HPk.out];unfold bareB;rw [lines_bare]
   ·
    have h9:BX w2 w1.heap.size (.slice p2 l.length c2) (l.map lineL):=⟨HO2.out,lines_in _ _ _⟩
    exact pc_store (gz:=gz) (h9.block 3 0) (grown_trans (grown_trans (grown_setCell w2 0 _) (grown_setCell _ 1 _)) (grown_setCell _ 2 _)) hz1 (by rw [HGZ.out];omega)
   ·
    rw [HGZ.out];exact(((HB2.out.setCell (p:=⟨gz,0,none⟩) (Nat.le_refl _) (.int .i64 3)).setCell (p:=⟨gz,1,none⟩) (Nat.le_refl _) (.int .i64 0)).setCell (p:=⟨gz,2,none⟩) (Nat.le_refl _) (.slice p2 l.length c2))
  ·
   have g2:((xs.length:Int) == 1)=false:=by rw [beq_eq_false_iff_ne];omega
   have HPf:=Lib.hid (piece_fork (F:=blkM R f) H1.out (hxl▸hs1))
   have HNs:Hid ((sidesM R l).length≠1):=Lib.hid (hxl▸hs1)
   have HXL:=Lib.hid hxl
   clear hs1 hxl
   go_upto_region 7 with(fail)
   have HBx:=Lib.hid (arrT_new w1 [.int .i64 2,.int .i64 0,.slice none 0 0] 183)
   have HN1:=Lib.hid (below_new (w:=w1) (.cells #[.int .i64 2,.int .i64 0,.slice none 0 0] 183))
   have HA2:=Lib.hid (HA1.out.over HN1.out)
   have HS2:Hid (w1.heap.size+1=(w1.alloc (.cells #[.int .i64 2,.int .i64 0,.slice none 0 0] 183)).heap.size):=Lib.hid (by simp)
   generalize hw2:w1.alloc (.cells #[.int .i64 2,.int .i64 0,.slice none 0 0] 183)=w2 at *
   clear hw2 y0 y1 y2 sy k0 k1 k2
   obtain⟨gb,hgb⟩:∃ gb,gb=w1.heap.size:=⟨_,rfl⟩
   rw [← hgb] at HBx HS2 HN1 hz1 ⊢
   have HGB:=Lib.hid hgb
   clear hgb
   have HF0:Hid (FkAt w2 w2 gb R l f xs 0 none 0 []):=Lib.hid ⟨HBx.out,bx_nil _ _,by rw [List.take_zero];rfl,World.grownBy.refl _ _⟩
   go_wp2_with fail
   go_loopw [8,9,11,31] (fun _ _ _ v31 wr=>FkRel w2 gb R l f xs v31 wr) (fun _ _ _ v31 _=>xs.length - (intOf v31).toNat)
   case atStart=>exact⟨0,none,0,[],Nat.zero_le _,rfl,HF0⟩
   case round =>
    obtain⟨j,p,c,ys,hj,rfl,HF⟩:=hrel
    rename World=>wr
    have HBr:Hid (Below w1.heap.size w1 wr):=Lib.hid (by
     have h9:=HN1.out
     rw [HGB.out] at h9
     exact h9.grown HF.out.world h9.size (fun k hk=>by cases hk;rw [HGB.out];exact Nat.le_refl _))
    have HBz:Hid (Below gz w wr):=Lib.hid (below_over HB1.out (by have:=HGB.out;omega) HBr.out)
    by_cases hlt:j<xs.length
    ·
     obtain⟨x,hx⟩:=get_of_lt hlt
     obtain⟨bx,ox,rfl,sbx,hcx⟩:=HCX.out.resolve_left (by omega)
     have x0':=(hcx j x hx wr HBr.out).2 0 _ rfl
     have x0:wr.cell? ⟨bx,ox+j,none⟩=some x.v:=by simpa using x0'
     have sx:=(hcx j x hx wr HBr.out).1
     have hxm:=List.mem_of_getElem? hx
     have hxr:=(HRW.out x hxm).over HBr.out
     obtain⟨q1,q2,ev,n3,n4,hcs⟩:=irow_at hxr
     unfold maxLen at n4
     have hsm:x.s∈sidesM R l:=by rw [← HBR.out];exact List.mem_map.2 ⟨x,hxm,rfl⟩
     have HSm:=Lib.hid hsm
     have HSl:=Lib.hid (sides_less HNs.out hsm)
     have HX1:=Lib.hid hx
     have HCS:=Lib.hid hcs
     rw [ev] at x0
     clear x0' hcx hx hxm hxr hsm hcs ev
     go_wp2_with fail
     go_loopw [9,11,37] (fun v9 _ v37 wq=>ThRel wr l x.s v9 v37 wq) (fun _ _ v37 _=>x.s.length - (intOf v37).toNat)
     case atStart=>exact⟨0,none,0,Nat.zero_le _,rfl,by rw [List.take_zero,things_nil];rfl,Lib.hid (by rw [List.take_zero,things_nil];exact gown_nil _ _),Below.refl _ _⟩
     case round =>
      obtain⟨q,p9,c9,hq,rfl,rfl,HT,hbq⟩:=hrel
      rename World=>wq
      have HBq:=Lib.hid hbq
      by_cases hlt2:q<x.s.length
      ·
       obtain⟨u,hu⟩:=get_of_lt hlt2
       obtain⟨bs,os,rfl,sbs,hcs2⟩:=HCS.out.resolve_left (by omega)
       obtain⟨su,u0⟩:=hcs2 q u hu wq hbq
       have hul:=sides_lt HSm.out (List.mem_of_getElem? hu)
       obtain⟨y,hy⟩:=get_of_lt hul
       obtain⟨bl,ol,rfl,sbl,hcl⟩:=HC.out.resolve_left (by omega)
       have hbw:Below gz w wq:=by
        exact below_over HBz.out (by have:=HBr.out.size;have:=HGB.out;omega) hbq
       obtain⟨sy2,l0⟩:=hcl u y hy wq hbw
       have HTs:=Lib.hid (things_step hu hy)
       have hN:(thingsM l (x.s.take q)).length+1≤1099511627776:=by have:=HSl.out;unfold thingsM;rw [List.length_map,List.length_take];omega
       have hB3:=hbq.size
       clear hcs2 hu hy hcl hbw
       go_wp2_with (at_builtin;(first|refine wpList_append_newD slIntI rfl _ _ rfl wr.heap.size _ _ (drawn_alloc_drewN _ _ _) 1 _ _ _ HT.out rfl rfl rfl rfl hN (by decide) hB3 ?_|refine wpList_append_newD slIntI rfl _ _ rfl wr.heap.size _ _ (drawn_drew _) 1 _ _ _ HT.out rfl rfl rfl rfl hN (by decide) hB3 ?_|refine wpList_append_newD slIntI rfl _ _ rfl wr.heap.size _ _ (drawn_drewN _ _) 1 _ _ _ HT.out rfl rfl rfl rfl hN (by decide) hB3 ?_|refine wpList_append_newD slIntI rfl _ _ rfl wr.heap.size _ _ (drawn_refl _) 1 _ _ _ HT.out rfl rfl rfl rfl hN (by decide) hB3 ?_);intro v9 w9 ho9 hg9)
       obtain⟨p8,c8,e8,hO8⟩:=iown_more ho9
       subst e8
       go_roundw
       case rel=>exact⟨q+1,p8,c8,hlt2,by go_num,by rw [HTs.out],Lib.hid (by rw [HTs.out];exact hO8),below_grown HBq.out hB3 HT.out hg9⟩
       case measure=>simp [intOf];omega
      ·
       obtain rfl:q=x.s.length:=by omega
       rw [List.take_length] at HT
       rw [List.take_length]
       have HBxq:=Lib.hid (HF.out.box.over hbq)
       have HSq:=Lib.hid (HF.out.sub.over hbq)
       have HBxa:=Lib.hid HBxq.out.arr
       have hbw:Below gz w wq:=by
        exact below_over HBz.out (by have:=HBr.out.size;have:=HGB.out;omega) hbq
       have HOc:Hid (∀ W,Below wq.heap.size wq W→Calls Tryz.prog 53 #[.pointer (some ⟨r,0,none⟩),.slice p9 (thingsM l x.s).length c9] W (OfRes W (blkM R f (thingsM l x.s)))):=Lib.hid fun W hW=>HOf.out _ _ W (by unfold thingsM;rw [List.length_map];have:=HSl.out;omega) (by unfold thingsM;rw [List.length_map];have:=HSl.out;omega) (things_le HL.out HSm.out) ((HR.out.over (by rw [HGZ.out];exact hbw)).over hW) (HT.out.over hW).row
       have hxj:(sidesM R l)[j]? = some x.s:=by rw [← HBR.out,List.getElem?_map,HX1.out];rfl
       have HXj:=Lib.hid hxj
       have hzl:gb<w2.heap.size:=by have:=HS2.out;omega
       have hwl:=HF.out.world.size
       have hN6:ys.length+1≤1099511627776:=by have:=bare_len HF.out.bare;have:=sides_few R l;have:=HXL.out;omega
       have HN6:=Lib.hid hN6
       clear hxj hbw hN6
       have b0:=HBxa.out.cell (j:=0) rfl
       have b1:=HBxa.out.cell (j:=1) rfl
       have b2:=HBxa.out.cell (j:=2) rfl
       have sb:=HBxa.out.lt
       go_upto_region 16 with(fail)
       have hcur:Below wq.heap.size wq wq.drew:=(Below.refl _ _).drew
       refine wp_region_lex (C:=IsOver wq) 7 [] (by kernel_rfl) (by kernel_rfl) (isOver_of hcur) ?_
       simp only [List.take_succ_cons,List.take_zero,List.drop_succ_cons,List.drop_zero]
       repeat(first|(refine lex_skip rfl rfl ?_;simp only [Act.put,List.setIfInBounds_toArray,List.set_cons_succ,List.set_cons_zero])|(refine lex_one rfl ?_;go_big_quiet_step (fail);refine wpQuiet_nil ?_)|(refine lex_loud rfl ?_;go_wp2_with (first|(go_at_call 53;(with_reducible refine(HOc.out _ hcur).mono ?_);rintro e w5 ⟨v5,ys5,rfl,hx5,hr5,hb5⟩;(obtain⟨p5,c5,e5,_,_,_⟩:=hx5.own.row.at encBl_len);subst e5;have HX5:Hid (BX w5 wq.heap.size (.slice p5 ys5.length c5) ys5):=Lib.hid hx5;have HR5:=Lib.hid hr5;replace hcur:=below_over hcur hcur.size hb5;clear hx5 hr5 hb5));refine⟨isOver_of (by first|exact hcur|exact hcur.alloc hcur.size _),?_⟩))
       refine lex_end ?_
       have HB5:=Lib.hid hcur
       have HO5:=Lib.hid ((HSq.out.over hcur).own)
       have hB6:w2.heap.size≤w5.heap.size:=by have:=hcur.size;have:=HBq.out.size;omega
       clear hcur
       go_wp2_with (at_builtin;(first|refine wpList_append_newK slBlk rfl _ _ rfl w2.heap.size #[.int .i64 4,.int .i64 0,.slice p5 ys5.length c5] 183 (drawn_refl _) 1 _ _ _ HO5.out rfl rfl rfl rfl HN6.out (by decide) hB6 ?_|refine wpList_append_newK slBlk rfl _ _ rfl w2.heap.size #[.int .i64 4,.int .i64 0,.slice p5 ys5.length c5] 183 (drawn_drew _) 1 _ _ _ HO5.out rfl rfl rfl rfl HN6.out (by decide) hB6 ?_);intro v6 w6 ho6 hg6 hv6;(obtain⟨p6,c6,e6,_,_,_⟩:=(GOwn.row (GOwn.snoc (x:=BlL.mk 4 0 (.slice p5 ys5.length c5) ys5) ho6)).at encBl_len);(have e7:v6=.slice p6 (ys.length+1) c6:=by rw [e6,List.length_append];rfl);clear e6;subst e7;have HST:=Lib.hid (HF.out.step HBq.out HB5.out HX5.out HR5.out HXj.out hzl hwl ho6 hg6 hv6);have HB6:=Lib.hid ((HBxq.out.over HB5.out).kept hg6 (fun e=>by have:=gown_low HSq.out.own e.symm;omega));have t2:=HB6.out.arr.cell (j:=2) rfl;have t3:=HB6.out.arr.free 2;have st:=HB6.out.arr.lt;clear ho6 hg6 hv6)
       go_roundw
       case rel=>exact⟨j+1,p6,c6,_,hlt,by go_num,HST⟩
       case measure=>simp [intOf];omega
    ·
     obtain rfl:j=xs.length:=by omega
     have HAr:=Lib.hid (HA1.out.over HBr.out)
     have HBA:=Lib.hid HF.out.box.arr
     have hzl:gz<w2.heap.size:=by have:=HS2.out;have:=HGB.out;omega
     have hzw:w.heap.size≤w2.heap.size:=by have:=HGZ.out;omega
     have HPe:Hid (pieceM R (blkM R f) l=.mk 2 0 (bareL ys)):=Lib.hid (by rw [HPf.out,HF.out.bare,HXL.out,List.take_length])
     have y0:=HAr.out.cell (j:=0) rfl
     have y1:=HAr.out.cell (j:=1) rfl
     have y2:=HAr.out.cell (j:=2) rfl
     have sy:=HAr.out.lt
     have b0:=HBA.out.cell (j:=0) rfl
     have b1:=HBA.out.cell (j:=1) rfl
     have b2:=HBA.out.cell (j:=2) rfl
     have sb:=HBA.out.lt
     have k0:=HAr.out.free 0
     have k1:=HAr.out.free 1
     have k2:=HAr.out.free 2
     go_wp2_with fail
     refine bodyPost_ret (v:=.agg #[.int .i64 2,.int .i64 0,.slice p ys.length c]) (results_arr rowBlk rfl (((HAr.out.set 0 _).set 1 _).set 2 _) rfl rfl) rfl ?_
     refine⟨2,0,.slice p ys.length c,ys,rfl,?_,?_,?_⟩
     ·
      rw [HPe.out];unfold bareB;rfl
     ·
      exact pc_store (gz:=gz) (HF.out.sub.block 2 0) (grown_trans (grown_trans (grown_setCell wr 0 _) (grown_setCell _ 1 _)) (grown_setCell _ 2 _)) hzl hzw
     ·
      rw [HGZ.out];exact(((HBz.out.setCell (p:=⟨gz,0,none⟩) (Nat.le_refl _) (.int .i64 2)).setCell (p:=⟨gz,1,none⟩) (Nat.le_refl _) (.int .i64 0)).setCell (p:=⟨gz,2,none⟩) (Nat.le_refl _) (.slice p ys.length c))
end Go.Proofs.YtanfebljiblhbaaGreatDoor
namespace Go.Proofs.YtanfebljiblhbaaGreatDoor
open Go Go.RowKit

def BoRel(w:World)(R:List (Nat × Nat))(f:Nat)(l:List Nat)(v5 v6 v10:Value)(wr:World):Prop:=∃(i at':Nat) (xs:List BlL),i≤l.length∧v10=.int .i64 i∧v6=.int .i64 at'∧Hid (BX wr w.heap.size v5 xs)∧Hid (bareL xs=(piecesTo R l i).1.map (pieceM R (blkM R f)))∧at'=(piecesTo R l i).2∧Below w.heap.size w wr
theorem pieces_zero(R:List (Nat × Nat))(l:List Nat):piecesTo R l 0=([],0):=rfl
theorem pieces_yes{R:List (Nat × Nat)}{l:List Nat}{k:Nat}(h:k+1=l.length∨cutB R l (k+1)=true):piecesTo R l (k+1)=((piecesTo R l k).1++[(l.take (k+1)).drop (piecesTo R l k).2],k+1):=by
 rw [piecesTo];exact if_pos h
theorem pieces_no{R:List (Nat × Nat)}{l:List Nat}{k:Nat}(h:¬ (k+1=l.length∨cutB R l (k+1)=true)):piecesTo R l (k+1)=piecesTo R l k:=by
 rw [piecesTo];exact if_neg h
theorem pieces_few(R:List (Nat × Nat))(l:List Nat):∀ k,(piecesTo R l k).1.length≤k
 | 0=>Nat.le_refl _
 | k+1=>by
  have:=pieces_few R l k
  by_cases h:k+1=l.length∨cutB R l (k+1)=true
  ·
   rw [pieces_yes h];simp;omega
  ·
   rw [pieces_no h];omega
theorem of_snoc{w w3 w6 wr:World}{v v6:Value}{xs ys3:List BlL}{k3 n3:Int}{s3:Value}{lo:Nat}(h:BX w3 w.heap.size v xs)(hx:BIn (fun b=>lo≤b∧b<w3.heap.size) w3 (.mk k3 n3 s3 ys3))(hlo:wr.heap.size≤lo)(hw:w.heap.size≤wr.heap.size)(hv:∀ b,v.ownBlock=some b→b<wr.heap.size)
  (ho:w6.ownsRow w.heap.size 183 3 v6 (xs.length+1) (xs.flatMap encBl++[.int .i64 k3,.int .i64 n3,s3])) (hg:w3.grownBy w6 v.ownBlock) (hk:v6.ownBlock=v.ownBlock∨∃ k,v6.ownBlock=some k∧w3.heap.size≤k):BX w6 w.heap.size v6 (xs++[.mk k3 n3 s3 ys3]):=
 BX.snoc h (BIn.weak hx fun b hb=>⟨hb.1,hb.2,fun e=>by have:=hv b e.symm;omega⟩) (by omega) (GOwn.snoc (x:=BlL.mk k3 n3 s3 ys3) ho) hg hk
theorem row_part{w:World}{b off n cap at' k:Nat}{l:List Nat}(h:GRow encI 1 w (.slice (some ⟨b,off,none⟩) n cap) l)(h1:at'<k)(h2:k≤l.length):GRow encI 1 w (.slice (some ⟨b,off+at',none⟩) (k - at') (cap - at')) ((l.take k).drop at'):=by
 obtain⟨a,c2,e,z1,z2,hc⟩:=irow_at h
 obtain⟨rfl,rfl,rfl⟩:=Value.slice.inj e
 have h9:=slice_row (l:=at') (h:=k) h (by omega) h2
 unfold sliced at h9
 rw [if_neg (by omega)] at h9
 unfold GRow
 have e1:((l.take k).drop at').length=k - at':=by rw [List.length_drop,List.length_take];omega
 have e2:((l.take k).drop at').flatMap encI=((l.flatMap encI).drop (at'*1)).take ((k - at')*1):=by
  rw [encI_map,encI_map,Nat.mul_one,Nat.mul_one,← List.map_drop,← List.map_take,← List.map_drop,← List.map_take]
  congr 2
  rw [List.drop_take]
 rw [e1,e2]
 simpa [Addr.add_lit] using h9
attribute [local irreducible] piecesTo pieceM blkM cutB
set_option maxHeartbeats 8000000 in
set_option maxRecDepth 100000 in
theorem bof_any(r n:Nat)(R:List (Nat × Nat)):∀(f:Nat) (l:List Nat) (v:Value) (w:World),l.length<f→l.length≤1000000→(∀ i∈l,i≤1000000)→RelAt w r n R→GRow encI 1 w v l →
  Calls Tryz.prog 53 #[.pointer (some ⟨r,0,none⟩),v] w (OfRes w (blkM R f l))
 | 0,l,v,w,hf,_,_,_,_=>absurd hf (Nat.not_lt_zero _)
 | f+1,l,v,w,hf,hn,hl,h,hv=>by
  have hih:=bof_any r n R f
  obtain⟨a,cap,rfl,h1,h2,hc⟩:=irow_at hv
  have HV:=Lib.hid hv
  unfold maxLen at h2
  have HR:=Lib.hid h
  have HL:=Lib.hid hl
  have HIH:Hid (∀(t:List Nat) (tv:Value) (W:World),t.length<f→t.length≤1000000→(∀ i∈t,i≤1000000)→RelAt W r n R→GRow encI 1 W tv t→Calls Tryz.prog 53 #[.pointer (some ⟨r,0,none⟩),tv] W (OfRes W (blkM R f t))):=Lib.hid fun t tv W ht h0 h1 h2 h3=>hih t tv W ht h0 h1 h2 h3
  have HBK:Hid (blkM R (f+1) l=(piecesTo R l l.length).1.map (pieceM R (blkM R f))):=Lib.hid (by rw [blkM];rfl)
  clear hv h hl hih
  go_enter Tryz.func53,Tryz.ntmps53
  go_wp2_with fail
  go_loopw [5,6,10] (fun v5 v6 v10 wr=>BoRel w R f l v5 v6 v10 wr) (fun _ _ v10 _=>l.length - (intOf v10).toNat)
  case atStart=>exact⟨0,0,[],by omega,rfl,rfl,Lib.hid (bx_nil _ _),Lib.hid (by rw [pieces_zero];rfl),by rw [pieces_zero],Below.refl _ _⟩
  case round =>
   obtain⟨i,at',xs,hi,rfl,rfl,HX,HBa,hat,hbl⟩:=hrel
   rename World=>wr
   have HBr:=Lib.hid hbl
   have hai:at'≤i:=by rw [hat];exact pieces_at R l i
   have HAt:=Lib.hid hat
   have HXl:Hid (xs.length≤i):=Lib.hid (by
    have h9:=congrArg List.length HBa.out
    rw [bareL_map,List.length_map,List.length_map] at h9
    rw [h9];exact pieces_few R l i)
   clear hat hbl
   by_cases hlt:i<l.length
   ·
    obtain⟨b,off,rfl,sb,hcb⟩:=hc.resolve_left (by omega)
    clear hcb
    have HPc:Hid (∀(tv:Value) (W:World),Below w.heap.size w W→GRow encI 1 W tv ((l.take (i+1)).drop at')→Calls Tryz.prog 106 #[.pointer (some ⟨r,0,none⟩),tv] W (PcRes W (pieceM R (blkM R f) ((l.take (i+1)).drop at')))):=Lib.hid fun tv W hW hr=>bpiece_any f r n R tv _ W (HR.out.over hW) hr (fun z hz=>HL.out z (List.mem_of_mem_take (List.mem_of_mem_drop hz))) (by rw [List.length_drop,List.length_take];omega) (by rw [List.length_drop,List.length_take];omega) (by rw [List.length_drop,List.length_take];omega) HIH.out
    by_cases hlast:i+1=l.length
    ·
     have HPt:=Lib.hid (pieces_yes (R:=R) (.inl hlast))
     have g1:((i:Int)+1 == (l.length:Int))=true:=by rw [beq_iff_eq];omega
     have HSlr:Hid (GRow encI 1 wr (.slice (some ⟨b,off+at',none⟩) (i+1 - at') (cap - at')) ((l.take (i+1)).drop at')):=Lib.hid (row_part (HV.out.over HBr.out) (by omega) (by omega))
     rw [← HAt.out] at HPt
     clear hlast
     go_wp2_with fail
     with_reducible refine(HPc.out _ _ HBr.out HSlr.out).mono ?_
     rintro e w3 ⟨k3,n3,s3,ys3,rfl,hb3,hi3,hbw3⟩
     have hs3:=(bin_mk.1 hi3).2.1
     have HB3:=Lib.hid hb3
     have HI3:=Lib.hid hi3
     have HX3:=Lib.hid (HX.out.over hbw3)
     have HBw3:=Lib.hid (below_over HBr.out HBr.out.size hbw3)
     have hN:xs.length+1≤1099511627776:=by have:=HXl.out;omega
     have hB3:=HBw3.out.size
     have hBr3:=hbw3.size
     have HO3:=Lib.hid HX3.out.own
     clear hb3 hi3 hbw3
     go_wp2_with (at_builtin;(first|refine wpList_append_newK slBlk rfl _ _ rfl w.heap.size #[.int .i64 k3,.int .i64 n3,s3] 183 (drawn_refl _) 1 _ _ _ HO3.out rfl rfl rfl (by simp [hs3];exact⟨rfl,rfl⟩) hN (by decide) hB3 ?_|refine wpList_append_newK slBlk rfl _ _ rfl w.heap.size #[.int .i64 k3,.int .i64 n3,s3] 183 (drawn_drew _) 1 _ _ _ HO3.out rfl rfl rfl (by simp [hs3];exact⟨rfl,rfl⟩) hN (by decide) hB3 ?_);intro v6 w6 ho6 hg6 hv6)
     go_roundw
     case rel=>exact⟨i+1,i+1,xs++[.mk k3 n3 s3 ys3],hlt,by go_num,by go_num,Lib.hid (of_snoc HX3.out HI3.out (Nat.le_refl _) HBr.out.size (fun b hb=>gown_size HX.out.own hb) ho6 hg6 hv6),Lib.hid (by rw [bareL_snoc,HBa.out,HB3.out,HPt.out,List.map_append];rfl),by rw [HPt.out],below_grown HBw3.out hB3 HO3.out hg6⟩
     case measure=>simp [intOf];omega
    ·
     have g1:((i:Int)+1 == (l.length:Int))=false:=by rw [beq_eq_false_iff_ne];omega
     cases hcu:cutB R l (i+1) with
     | true =>
      have HPt:=Lib.hid (pieces_yes (R:=R) (.inr hcu))
      have HSlr:Hid (GRow encI 1 wr (.slice (some ⟨b,off+at',none⟩) (i+1 - at') (cap - at')) ((l.take (i+1)).drop at')):=Lib.hid (row_part (HV.out.over HBr.out) (by omega) (by omega))
      have HCu:=Lib.hid hcu
      rw [← HAt.out] at HPt
      clear hcu
      go_wp2_with fail
      refine(bcut_any r n R _ l (i+1) _ (HR.out.over HBr.out) (HV.out.over HBr.out) HL.out (by omega)).mono ?_
      rw [HCu.out]
      rintro e w2 ⟨rfl,hw⟩
      obtain rfl:=hw.symm
      go_wp2_with fail
      with_reducible refine(HPc.out _ _ HBr.out HSlr.out).mono ?_
      rintro e w3 ⟨k3,n3,s3,ys3,rfl,hb3,hi3,hbw3⟩
      have hs3:=(bin_mk.1 hi3).2.1
      have HB3:=Lib.hid hb3
      have HI3:=Lib.hid hi3
      have HX3:=Lib.hid (HX.out.over hbw3)
      have HBw3:=Lib.hid (below_over HBr.out HBr.out.size hbw3)
      have hN:xs.length+1≤1099511627776:=by have:=HXl.out;omega
      have hB3:=HBw3.out.size
      have hBr3:=hbw3.size
      have HO3:=Lib.hid HX3.out.own
      clear hb3 hi3 hbw3
      go_wp2_with (at_builtin;(first|refine wpList_append_newK slBlk rfl _ _ rfl w.heap.size #[.int .i64 k3,.int .i64 n3,s3] 183 (drawn_refl _) 1 _ _ _ HO3.out rfl rfl rfl (by simp [hs3];exact⟨rfl,rfl⟩) hN (by decide) hB3 ?_|refine wpList_append_newK slBlk rfl _ _ rfl w.heap.size #[.int .i64 k3,.int .i64 n3,s3] 183 (drawn_drew _) 1 _ _ _ HO3.out rfl rfl rfl (by simp [hs3];exact⟨rfl,rfl⟩) hN (by decide) hB3 ?_);intro v6 w6 ho6 hg6 hv6)
      go_roundw
      case rel=>exact⟨i+1,i+1,xs++[.mk k3 n3 s3 ys3],hlt,by go_num,by go_num,Lib.hid (of_snoc HX3.out HI3.out (Nat.le_refl _) HBr.out.size (fun b hb=>gown_size HX.out.own hb) ho6 hg6 hv6),Lib.hid (by rw [bareL_snoc,HBa.out,HB3.out,HPt.out,List.map_append];rfl),by rw [HPt.out],below_grown HBw3.out hB3 HO3.out hg6⟩
      case measure=>simp [intOf];omega
     | false =>
      have HPt:=Lib.hid (pieces_no (R:=R) (k:=i) (fun q=>q.elim hlast (fun q=>by rw [hcu] at q;cases q)))
      have HCu:=Lib.hid hcu
      clear hcu
      go_wp2_with fail
      refine(bcut_any r n R _ l (i+1) _ (HR.out.over HBr.out) (HV.out.over HBr.out) HL.out (by omega)).mono ?_
      rw [HCu.out]
      rintro e w2 ⟨rfl,hw⟩
      obtain rfl:=hw.symm
      go_wp2_with fail
      go_roundw
      case rel=>exact⟨i+1,at',xs,hlt,by go_num,rfl,HX,Lib.hid (by rw [HPt.out];exact HBa.out),by rw [HPt.out];exact HAt.out,HBr.out⟩
      case measure=>simp [intOf];omega
   ·
    obtain rfl:i=l.length:=by omega
    go_wp2_with fail
    go_ret
    exact⟨_,xs,rfl,HX.out,by rw [HBa.out,HBK.out],HBr.out⟩
end Go.Proofs.YtanfebljiblhbaaGreatDoor
namespace Go.Proofs.YtanfebljiblhbaaGreatDoor
open Go Go.RowKit

mutual
/-- how many blocks are not in order -/
def oddB:BlkM→Nat
 | .mk k _ s=>(if k=2∨k=3 then 1 else 0)+(if k=1 then 0 else oddL s)
def oddL:List BlkM→Nat
 | []=>0
 | b :: l=>oddB b+oddL l
end
theorem oddL_nil:oddL []=0:=by rw [oddL]
theorem oddL_cons(b:BlkM)(l:List BlkM):oddL (b :: l)=oddB b+oddL l:=by rw [oddL]
theorem oddL_append:∀ l m:List BlkM,oddL (l++m)=oddL l+oddL m
 | [],m=>by rw [List.nil_append,oddL_nil,Nat.zero_add]
 | b :: l,m=>by rw [List.cons_append,oddL_cons,oddL_cons,oddL_append l m];omega
theorem odd_succ{xs:List BlL}{j:Nat}{x:BlL}(h:xs[j]? = some x):oddL (bareL (xs.take (j+1)))=oddL (bareL (xs.take j))+oddB (bareB x):=by
 rw [take_one h,bareL_snoc,oddL_append]
 rw [oddL_cons,oddL_nil,Nat.add_zero]
theorem odd_le{xs:List BlL}(j:Nat):oddL (bareL (xs.take j))≤oddL (bareL xs):=by
 have h:bareL xs=bareL (xs.take j)++bareL (xs.drop j):=by rw [bareL_map,bareL_map,bareL_map,← List.map_append,List.take_append_drop]
 rw [h,oddL_append];omega
theorem oddB_mk(k n:Int)(s:List BlkM):oddB (.mk k n s)=(if k=2∨k=3 then 1 else 0)+(if k=1 then 0 else oddL s):=by rw [oddB]
theorem odd_1(n:Int)(s:List BlkM):oddB (.mk 1 n s)=0:=by rw [oddB_mk];simp
theorem odd_23{k n:Int}{s:List BlkM}(h:k=2∨k=3):oddB (.mk k n s)=1+oddL s:=by
 rw [oddB_mk,if_pos h,if_neg (by omega)]
theorem odd_0{k n:Int}{s:List BlkM}(h1:k≠1)(h2:¬ (k=2∨k=3)):oddB (.mk k n s)=oddL s:=by
 rw [oddB_mk,if_neg h2,if_neg h1,Nat.zero_add]
theorem bins_mem{A:Nat→Prop}{w:World}:∀ {l:List BlL} {x:BlL},BIns A w l→x∈l→BIn A w x
 | [],x,_,hx=>absurd hx (List.not_mem_nil)
 | b :: l,x,h,hx=>by
  unfold BIns at h
  rcases List.mem_cons.1 hx with rfl|hx
  ·
   exact h.1
  ·
   exact bins_mem h.2 hx
theorem size_sub{xs:List BlL}{k n:Int}{sv:Value}{s:List BlL}(h:BlL.mk k n sv s∈xs):SizeOf.sizeOf s<SizeOf.sizeOf xs:=by
 have h1:=List.sizeOf_lt_of_mem h
 have h2:SizeOf.sizeOf s<SizeOf.sizeOf (BlL.mk k n sv s):=by simp;omega
 omega
theorem bareL_nil:bareL []=[]:=by rw [bareL]
def OddRel(w:World)(xs:List BlL)(v3 v8:Value)(wr:World):Prop:=∃ j:Nat,j≤xs.length∧v8=.int .i64 j∧v3=.int .i64 (oddL (bareL (xs.take j)):Int)∧Below w.heap.size w wr
attribute [local irreducible] oddL oddB bareL bareB
set_option maxHeartbeats 8000000 in
set_option maxRecDepth 100000 in
theorem bodd_any(A:Nat→Prop):∀(N:Nat) (v:Value) (xs:List BlL) (w:World),SizeOf.sizeOf xs<N→GRow encBl 3 w v xs→BIns A w xs→oddL (bareL xs)≤1000000 →
  Calls Tryz.prog 80 #[v] w fun e w'=>e=.returned (.int .i64 (oddL (bareL xs):Int))∧Below w.heap.size w w'
 | 0,v,xs,w,hs,_,_,_=>absurd hs (Nat.not_lt_zero _)
 | N+1,v,xs,w,hs,hv,hi,ho=>by
  have HIH:=Lib.hid (bodd_any A N)
  obtain⟨a,cap,rfl,h1,h2,hc⟩:=hv.at encBl_len
  unfold maxLen at h2
  have HC:=Lib.hid hc
  have HI:=Lib.hid hi
  have HS:=Lib.hid hs
  have HO:=Lib.hid ho
  clear hv hi hc hs ho
  go_enter Tryz.func80,Tryz.ntmps80
  go_wp2_with fail
  go_loopw [3,8] (fun v3 v8 wr=>OddRel w xs v3 v8 wr) (fun _ v8 _=>xs.length - (intOf v8).toNat)
  case atStart=>exact⟨0,by omega,rfl,by rw [List.take_zero,bareL_nil,oddL_nil];rfl,Below.refl _ _⟩
  case round =>
   obtain⟨j,hj,rfl,rfl,hbl⟩:=hrel
   rename World=>wr
   have HB:=Lib.hid hbl
   by_cases hlt:j<xs.length
   ·
    obtain⟨b,off,rfl,sb,hcb⟩:=HC.out.resolve_left (by omega)
    obtain⟨⟨kd,nm,sv,sub⟩,hx⟩:=get_of_lt hlt
    have hr:=hcb j _ hx wr hbl
    have sx:=hr.1
    have x0:wr.cell? ⟨b,off+j*3,none⟩=some (.int .i64 kd):=hr.2 0 _ rfl
    have x1:wr.cell? ⟨b,off+j*3+1,none⟩=some (.int .i64 nm):=hr.2 1 _ rfl
    have x2:wr.cell? ⟨b,off+j*3+2,none⟩=some sv:=hr.2 2 _ rfl
    have hm:=List.mem_of_getElem? hx
    have hin:=bin_mk.1 (bins_mem HI.out hm)
    obtain⟨a',cap',esv,_,_,_⟩:=hin.1.at encBl_len
    subst esv
    have HSub:=Lib.hid hin.1
    have HSin:=Lib.hid hin.2.2.2
    have HSz:Hid (SizeOf.sizeOf sub<N):=Lib.hid (by have:=size_sub hm;have:=HS.out;omega)
    have hsu:=odd_succ hx
    have hle:=odd_le (xs:=xs) (j+1)
    have hot:=HO.out
    obtain⟨oj,hoj⟩:∃ oj,oddL (bareL (xs.take j))=oj:=⟨_,rfl⟩
    rw [hoj] at hsu
    rw [hoj]
    rw [show bareB (.mk kd nm (.slice a' sub.length cap') sub)=.mk kd nm (bareL sub) from by unfold bareB;rfl] at hsu
    clear hcb hx hr hin hm hoj
    by_cases k1:kd=1
    ·
     subst k1
     rw [odd_1] at hsu
     have HSu:Hid (oddL (bareL (xs.take (j+1)))=oj):=Lib.hid (by omega)
     clear hsu hle
     go_upto_region 5 with(fail)
     have HK:=Lib.hid (arr_new wr #[.int .i64 1,.int .i64 nm,.slice a' sub.length cap'] 183)
     have HN:=Lib.hid (below_new (w:=wr) (.cells #[.int .i64 1,.int .i64 nm,.slice a' sub.length cap'] 183))
     generalize hw0:wr.alloc (.cells #[.int .i64 1,.int .i64 nm,.slice a' sub.length cap'] 183)=w0 at *
     clear hw0
     have y0:=HK.out.cell (j:=0) rfl
     have y1:=HK.out.cell (j:=1) rfl
     have y2:=HK.out.cell (j:=2) rfl
     have sy:=HK.out.lt
     go_wp2_with fail
     go_roundw
     case rel=>exact⟨j+1,hlt,by go_num,by rw [HSu.out],below_over HB.out HB.out.size HN.out⟩
     case measure=>simp [intOf];omega
    ·
     obtain⟨ob,hob⟩:∃ ob,oddL (bareL sub)=ob:=⟨_,rfl⟩
     have HOb:=Lib.hid hob
     by_cases k2:kd=2
     ·
      subst k2
      rw [odd_23 (.inl rfl),hob] at hsu
      have HSu:Hid (oddL (bareL (xs.take (j+1)))=oj+1+ob):=Lib.hid (by omega)
      have hb1:oj+1+ob≤1000000:=by omega
      clear hsu hle hot hob k1
      go_upto_region 5 with(fail)
      have HK:=Lib.hid (arr_new wr #[.int .i64 2,.int .i64 nm,.slice a' sub.length cap'] 183)
      have HN:=Lib.hid (below_new (w:=wr) (.cells #[.int .i64 2,.int .i64 nm,.slice a' sub.length cap'] 183))
      generalize hw0:wr.alloc (.cells #[.int .i64 2,.int .i64 nm,.slice a' sub.length cap'] 183)=w0 at *
      clear hw0
      have y0:=HK.out.cell (j:=0) rfl
      have y1:=HK.out.cell (j:=1) rfl
      have y2:=HK.out.cell (j:=2) rfl
      have sy:=HK.out.lt
      go_wp2_with fail
      refine(HIH.out _ sub _ HSz.out (HSub.out.over (below_over HB.out HB.out.size HN.out)) (HSin.out.over (below_over HB.out HB.out.size HN.out)) (by rw [HOb.out];omega)).mono ?_
      rw [HOb.out]
      rintro e w2 ⟨rfl,hb2⟩
      have HB2:=Lib.hid (below_over (below_over HB.out HB.out.size HN.out) (below_over HB.out HB.out.size HN.out).size hb2)
      clear hb2
      go_wp2_with fail
      go_roundw
      case rel=>exact⟨j+1,hlt,by go_num,by rw [HSu.out];go_num,HB2.out⟩
      case measure=>simp [intOf];omega
     ·
      by_cases k3:kd=3
      ·
       subst k3
       rw [odd_23 (.inr rfl),hob] at hsu
       have HSu:Hid (oddL (bareL (xs.take (j+1)))=oj+1+ob):=Lib.hid (by omega)
       have hb1:oj+1+ob≤1000000:=by omega
       clear hsu hle hot hob k1 k2
       go_upto_region 5 with(fail)
       have HK:=Lib.hid (arr_new wr #[.int .i64 3,.int .i64 nm,.slice a' sub.length cap'] 183)
       have HN:=Lib.hid (below_new (w:=wr) (.cells #[.int .i64 3,.int .i64 nm,.slice a' sub.length cap'] 183))
       generalize hw0:wr.alloc (.cells #[.int .i64 3,.int .i64 nm,.slice a' sub.length cap'] 183)=w0 at *
       clear hw0
       have y0:=HK.out.cell (j:=0) rfl
       have y1:=HK.out.cell (j:=1) rfl
       have y2:=HK.out.cell (j:=2) rfl
       have sy:=HK.out.lt
       go_wp2_with fail
       refine(HIH.out _ sub _ HSz.out (HSub.out.over (below_over HB.out HB.out.size HN.out)) (HSin.out.over (below_over HB.out HB.out.size HN.out)) (by rw [HOb.out];omega)).mono ?_
       rw [HOb.out]
       rintro e w2 ⟨rfl,hb2⟩
       have HB2:=Lib.hid (below_over (below_over HB.out HB.out.size HN.out) (below_over HB.out HB.out.size HN.out).size hb2)
       clear hb2
       go_wp2_with fail
       go_roundw
       case rel=>exact⟨j+1,hlt,by go_num,by rw [HSu.out];go_num,HB2.out⟩
       case measure=>simp [intOf];omega
      ·
       rw [odd_0 k1 (by omega),hob] at hsu
       have HSu:Hid (oddL (bareL (xs.take (j+1)))=oj+ob):=Lib.hid (by omega)
       have hb1:oj+ob≤1000000:=by omega
       have g1:(kd == 1)=false:=by rw [beq_eq_false_iff_ne];exact k1
       have g1':(kd != 1)=true:=by rw [bne_iff_ne];exact k1
       have g2:(kd == 2)=false:=by rw [beq_eq_false_iff_ne];exact k2
       have g3:(kd == 3)=false:=by rw [beq_eq_false_iff_ne];exact k3
       clear hsu hle hot hob
       go_upto_region 5 with(fail)
       have HK:=Lib.hid (arr_new wr #[.int .i64 kd,.int .i64 nm,.slice a' sub.length cap'] 183)
       have HN:=Lib.hid (below_new (w:=wr) (.cells #[.int .i64 kd,.int .i64 nm,.slice a' sub.length cap'] 183))
       generalize hw0:wr.alloc (.cells #[.int .i64 kd,.int .i64 nm,.slice a' sub.length cap'] 183)=w0 at *
       clear hw0
       have y0:=HK.out.cell (j:=0) rfl
       have y1:=HK.out.cell (j:=1) rfl
       have y2:=HK.out.cell (j:=2) rfl
       have sy:=HK.out.lt
       go_wp2_with fail
       refine(HIH.out _ sub _ HSz.out (HSub.out.over (below_over HB.out HB.out.size HN.out)) (HSin.out.over (below_over HB.out HB.out.size HN.out)) (by rw [HOb.out];omega)).mono ?_
       rw [HOb.out]
       rintro e w2 ⟨rfl,hb2⟩
       have HB2:=Lib.hid (below_over (below_over HB.out HB.out.size HN.out) (below_over HB.out HB.out.size HN.out).size hb2)
       clear hb2
       go_wp2_with fail
       go_roundw
       case rel=>exact⟨j+1,hlt,by go_num,by rw [HSu.out];go_num,HB2.out⟩
       case measure=>simp [intOf];omega
   ·
    obtain rfl:j=xs.length:=by omega
    rw [List.take_length]
    go_wp2_with fail
    go_ret
    exact⟨rfl,HB.out⟩
end Go.Proofs.YtanfebljiblhbaaGreatDoor
namespace Go.Proofs.YtanfebljiblhbaaGreatDoor
open Go Go.RowKit

attribute [local irreducible] keptV1 aliveX
end Go.Proofs.YtanfebljiblhbaaGreatDoor
