/- slices.Sort at []int: the shelf's. Contract of block.sides. A row of blocks that grows: what is in its blocks lies apart from it. Contract of block.piece: the contract of block.Of at shorter lists taken as given. Contract of block.Of. Contract of block.Odd. Contract of edit.kills. Contracts of slices.IndexFunc and DeleteFunc at vertices, names.Of. Contract of edit.Ops. A sheet that may be nobody: nil, which has no lines. What is seen of blocks, plain; Sheet.Vert where there is no such line. The closure of show.Blocks that shows what is not in order; the contract of show.Blocks at less is taken as given. Contract of show.Blocks. How much is seen of the blocks of a list: plain. Contract of show.Lines. Whose the lines are that are seen of blocks, plain. -/
import Derived.Test.YtanfebljiblhbaaGreatDoorHLay3
import Derived.Test.YtanfebljiblhbaaGreatDoorHEdB
set_option linter.unusedVariables false
set_option linter.unusedSimpArgs false
namespace Go.Proofs.YtanfebljiblhbaaGreatDoor
open Go Go.RowKit

theorem encI_map(s:List Nat):s.flatMap encI=(s.map Int.ofNat).map (Value.int .i64):=by
 induction s with
 | nil=>rfl
 | cons x s ih=>rw [List.flatMap_cons,ih];rfl
theorem putCells_encI{α:Type}[Inhabited α](enc:α→Value)(d:Array α)(c:Array Value):Go.Sort.putCells enc 0 d c=Go.Sort.putCells id 0 (d.map enc) c:=by
 apply Array.ext_getElem?
 intro t
 simp only [Go.Sort.putCells,Array.getElem?_mapIdx,Array.size_map,Nat.sub_zero,id]
 by_cases h:t<d.size
 ·
  rw [getElem!_pos d t h,getElem!_pos (d.map enc) t (by simpa using h)];simp
 ·
  simp [h]
theorem OwnAt.holdsI{w:World}{B g cap:Nat}{e:TypeId}{s:List Nat}(h:OwnAt w B e 1 g s.length cap (s.flatMap encI)):Go.Sort.Holds (Value.int .i64) w g 0 (s.map Int.ofNat).toArray:=by
 intro j hj
 rw [Nat.zero_add]
 refine⟨?_,h.free j⟩
 refine h.cell ?_
 have hj':j<s.length:=by simpa using hj
 rw [encI_map,List.getElem?_map,List.getElem?_map,List.getElem?_eq_getElem hj',getElem!_pos (s.map Int.ofNat).toArray j hj]
 simp
theorem OwnAt.putI{w:World}{B g cap:Nat}{e:TypeId}{s t:List Nat}(h:OwnAt w B e 1 g s.length cap (s.flatMap encI))(hl:t.length=s.length)(n:Nat)(os:Array Obj) :
  OwnAt (Go.Sort.grow (Go.Sort.putRow (Value.int .i64) (Go.Sort.ahead w n) g 0 (t.map Int.ofNat).toArray) os) B e 1 g s.length cap (t.flatMap encI)∧w.grownBy (Go.Sort.grow (Go.Sort.putRow (Value.int .i64) (Go.Sort.ahead w n) g 0 (t.map Int.ofNat).toArray) os) (some g):=by
 have hlt:=h.lt
 obtain⟨junk,h1,h2⟩:=h.at'
 have hl2:(s.flatMap encI).length=(t.flatMap encI).length:=by rw [encI_map,encI_map];simp [hl]
 have hheap:(Go.Sort.putRow (Value.int .i64) (Go.Sort.ahead w n) g 0 (t.map Int.ofNat).toArray).heap[g]? = some (.cells (t.flatMap encI++junk).toArray e (0,0)):=by
  unfold Go.Sort.putRow Go.Sort.mapBlock
  simp only [Array.getElem?_modify,if_pos]
  have:(Go.Sort.ahead w n).heap=w.heap:=rfl
  rw [this,h1]
  simp only [Option.map_some,Go.Sort.onCells]
  rw [putCells_encI,List.map_toArray,← encI_map,putCells_row _ _ _ hl2]
 refine⟨⟨⟨junk,?_,?_⟩,by rw [← hl2];exact h.len,h.base,h.nc,h.cm⟩,?_⟩
 ·
  rw [Go.Sort.heap_grow_old _ _ (by simp [Go.Sort.putRow,Go.Sort.mapBlock];exact hlt)]
  exact hheap
 ·
  rw [List.length_append,← hl2,← List.length_append];exact h2
 ·
  refine⟨rfl,rfl,rfl,by simp [Go.Sort.putRow,Go.Sort.mapBlock,Go.Sort.ahead],fun i hi hne => ?_⟩
  rw [Go.Sort.heap_grow_old _ _ (by simp [Go.Sort.putRow,Go.Sort.mapBlock];exact hi)]
  unfold Go.Sort.putRow Go.Sort.mapBlock
  simp only [Array.getElem?_modify]
  rw [if_neg (fun e=>hne (by rw [e]))]
  rfl
theorem sortI_eq{s t:List Nat}(hn:s.Nodup)(ht:t.Pairwise (· < ·))(hm:∀ x,x∈t↔x∈s):((s.map Int.ofNat).mergeSort fun x y=>decide (x≤y))=t.map Int.ofNat:=by
 have hperm:=List.mergeSort_perm (s.map Int.ofNat) fun x y=>decide (x≤y)
 have hsort:((s.map Int.ofNat).mergeSort fun x y=>decide (x≤y)).Pairwise fun a b=>decide (a≤b)=true:=List.pairwise_mergeSort (fun a b c h1 h2=>by simp only [decide_eq_true_eq] at *;omega) (fun a b=>by simp only [Bool.or_eq_true,decide_eq_true_eq];omega) _
 have hnd:((s.map Int.ofNat).mergeSort fun x y=>decide (x≤y)).Nodup:=hperm.nodup_iff.2 ((List.pairwise_map).2 (hn.imp fun h e=>h (Int.ofNat.inj e)))
 have hmem:∀ z,z∈((s.map Int.ofNat).mergeSort fun x y=>decide (x≤y))↔z∈s.map Int.ofNat:=fun z=>hperm.mem_iff
 refine rises_ext (key:=Int.toNat) ?_ ?_ fun z => ?_
 ·
  have h2:=List.pairwise_and_iff.2 ⟨hsort,hnd⟩
  refine h2.imp_of_mem fun {a b} ha hb h => ?_
  obtain⟨x,_,rfl⟩:=List.mem_map.1 ((hmem a).1 ha)
  obtain⟨y,_,rfl⟩:=List.mem_map.1 ((hmem b).1 hb)
  have h3:=h.1
  have h4:=h.2
  simp only [decide_eq_true_eq] at h3
  show x<y
  have:x≠y:=fun e=>h4 (by rw [e])
  have h5:(x:Int)≤(y:Int):=h3
  omega
 ·
  unfold Rises
  rw [List.pairwise_map]
  exact ht.imp fun h=>h
 ·
  rw [hmem,List.mem_map,List.mem_map]
  exact⟨fun⟨x,h1,h2⟩=>⟨x,(hm x).2 h1,h2⟩,fun⟨x,h1,h2⟩=>⟨x,(hm x).1 h1,h2⟩⟩
def SortIRes(w:World)(B g cap:Nat)(s t:List Nat)(r:Ending)(w':World):Prop:=r=.returned (.tuple #[])∧OwnAt w' B 3 1 g s.length cap (t.flatMap encI)∧w.grownBy w' (some g)
theorem sortI_any{w:World}{B g cap:Nat}{s t:List Nat}(h:OwnAt w B 3 1 g s.length cap (s.flatMap encI))(hn:s.length≤1000000000)(hd:s.Nodup)(ht:t.Pairwise (· < ·))(hm:∀ x,x∈t↔x∈s) :
  Calls Tryz.prog 226 #[.slice (some ⟨g,0,none⟩) s.length cap] w (SortIRes w B g cap s t):=by
 have hcon:=AnyM.slices_Sort_int (P:=Tryz.prog) Tryz.sortInt g 0 cap (s.map Int.ofNat) w h.holdsI h.lt (by rw [List.length_map];omega)
 rw [List.length_map,sortI_eq hd ht hm] at hcon
 refine hcon.mono ?_
 rintro e w' ⟨rfl,n,os,rfl⟩
 have hl:t.length=s.length:=Nat.le_antisymm (nodup_lenN (ht.imp fun h=>Nat.ne_of_lt h) fun x hx=>(hm x).1 hx) (nodup_lenN hd fun x hx=>(hm x).2 hx)
 obtain⟨h1,h2⟩:=h.putI hl n os
 exact⟨rfl,h1,h2⟩
end Go.Proofs.YtanfebljiblhbaaGreatDoor
namespace Go.Proofs.YtanfebljiblhbaaGreatDoor
open Go Go.RowKit

/-- a side as it lies -/
structure SideL where
 s:List Nat
 v:Value
def encSd(x:SideL):List Value:=[x.v]
theorem encSd_len(x:SideL):(encSd x).length=1:=rfl
def seenV(S:Nat→Bool)(n:Nat):List Value:=(List.range n).map fun k=>.int .i64 (if S k then 1 else 0)
theorem seenV_len(S:Nat→Bool)(n:Nat):(seenV S n).length=n:=by unfold seenV;simp
theorem seenV_get{S:Nat→Bool}{n k:Nat}(h:k<n):(seenV S n)[k]? = some (.int .i64 (if S k then 1 else 0)):=by unfold seenV;simp [h]
theorem seenV_zero(n:Nat):seenV (fun _=>false) n=List.replicate n (.int .i64 0):=by unfold seenV;simp [List.map_const']
theorem seenV_set{S S':Nat→Bool}{n k:Nat}(h:∀ q,S' q=if q=k then true else S q):(seenV S n).set k (.int .i64 1)=seenV S' n:=by
 refine List.ext_getElem? fun q => ?_
 rw [List.getElem?_set]
 by_cases hq:q<n
 ·
  rw [seenV_get hq,seenV_get hq,seenV_len,h q]
  by_cases hk:k=q
  ·
   subst hk;simp [hq]
  ·
   have hk':¬ q=k:=fun e=>hk e.symm
   simp only [if_neg hk,if_neg hk']
 ·
  have h1:(seenV S n)[q]? = none:=List.getElem?_eq_none (by rw [seenV_len];omega)
  have h2:(seenV S' n)[q]? = none:=List.getElem?_eq_none (by rw [seenV_len];omega)
  rw [h1,h2,seenV_len]
  split
  ·
   split
   ·
    omega
   ·
    rfl
  ·
   rfl
theorem grown_far{w w1 w2:World}{g g2:Nat}(h:w.grownBy w1 (some g))(hg:w.heap.size≤g2)(h':w1.grownBy w2 (some g2)):w.grownBy w2 (some g):=
 ⟨h'.os.trans h.os,h'.tape.trans h.tape,h'.output.trans h.output,Nat.le_trans h.size h'.size,fun k hk hn=>(h'.block k (Nat.lt_of_lt_of_le hk h.size) (fun e=>by cases e;omega)).trans (h.block k hk hn)⟩
theorem grown_belowS{w w1 w2:World}{g:Nat}(h:w.grownBy w1 (some g))(h':Below w1.heap.size w1 w2):w.grownBy w2 (some g):=
 ⟨h'.os.trans h.os,h'.tape.trans h.tape,h'.output.trans h.output,Nat.le_trans h.size h'.size,fun k hk hn=>(h'.block k (Nat.lt_of_lt_of_le hk h.size)).trans (h.block k hk hn)⟩
theorem own_lit28s{α:Type}{enc:α→List Value}{sz:Nat}(w:World)(e:TypeId)(xs:List α)(B:Nat)(hl:(xs.flatMap enc).length=xs.length*sz)(hm:xs.length≤maxLen)(hB:B≤w.heap.size):GOwn enc sz e (w.alloc (.cells (xs.flatMap enc).toArray e)) B (.slice (some ⟨w.heap.size,0,none⟩) xs.length xs.length) xs:=
 ⟨hl,.inr ⟨w.heap.size,xs.length,(xs.flatMap enc).toArray,rfl,hB,by rw [heap_alloc_new],Nat.le_refl _,hm,by simp [hl],by rw [← hl];exact List.take_length⟩⟩
theorem slSide:SlT Tryz.prog 215 89 1 24:=slT_of Tryz.underlying215 (by kernel_rfl) (by decide)
def SidesRes(w:World)(ss:List (List Nat))(e:Ending)(w':World):Prop:=∃ v xs,e=.returned v∧GOwn encSd 1 89 w' w.heap.size v xs∧(∀ x∈xs,GRow encI 1 w' x.v x.s)∧xs.map (·.s)=ss∧Below w.heap.size w w'
/-- the outer loop -/
structure SiAt (wr w1:World) (gS:Nat) (R:List (Nat × Nat)) (l:List Nat) (i:Nat) (v5:Value) (xs:List SideL):Prop where
 out:GOwn encSd 1 89 wr w1.heap.size v5 xs
 rows:∀ x∈xs,GOwn encI 1 3 wr w1.heap.size x.v x.s
 bare:xs.map (·.s)=(headsM R l i).map (sideM R l)
 seen:ArrT wr gS 3 (seenV (seenB R l i) l.length)
 world:w1.grownBy wr (some gS)
def SiRel(w1:World)(gS:Nat)(R:List (Nat × Nat))(l:List Nat)(v5 v16:Value)(wr:World):Prop:=∃(i:Nat) (xs:List SideL),i≤l.length∧v16=.int .i64 i∧Hid (SiAt wr w1 gS R l i v5 xs)
/-- a side on its way: s in block by block, marked -/
structure SdAt (wq wr:World) (gS:Nat) (R:List (Nat × Nat)) (l:List Nat) (i at' k:Nat) (v8:Value) (s:List Nat):Prop where
 own:GOwn encI 1 3 wq wr.heap.size v8 s
 seen:ArrT wq gS 3 (seenV (markB R l i s) l.length)
 sd:Sd R l i at' k s
 world:wr.grownBy wq (some gS)
theorem SdAt.over{wq wp wr:World}{gS:Nat}{R:List (Nat × Nat)}{l:List Nat}{i at' k:Nat}{v8:Value}{s:List Nat}(h:SdAt wq wr gS R l i at' k v8 s)(hb:Below wq.heap.size wq wp):SdAt wp wr gS R l i at' k v8 s:=
 ⟨h.own.over hb,h.seen.over hb,h.sd,grown_belowS h.world hb⟩
theorem SdAt.go{wq wr:World}{gS:Nat}{R:List (Nat × Nat)}{l:List Nat}{i at' k k':Nat}{v8:Value}{s:List Nat}(h:SdAt wq wr gS R l i at' k v8 s)(hs:Sd R l i at' k' s):SdAt wq wr gS R l i at' k' v8 s:=
 ⟨h.own,h.seen,hs,h.world⟩
/-- a place marked, not yet appended -/
structure SmAt (wq wr:World) (gS:Nat) (R:List (Nat × Nat)) (l:List Nat) (i at' k:Nat) (v8:Value) (s:List Nat):Prop where
 own:GOwn encI 1 3 wq wr.heap.size v8 s
 seen:ArrT wq gS 3 (seenV (markB R l i (s++[k])) l.length)
 sd:Sd R l i at' (k+1) (s++[k])
 world:wr.grownBy wq (some gS)
theorem SdAt.mark{wq wr:World}{gS n1:Nat}{R:List (Nat × Nat)}{l:List Nat}{i at' k:Nat}{v8:Value}{s:List Nat}(h:SdAt wq wr gS R l i at' k v8 s)(hg:gS<wr.heap.size)(_:n1≤wr.heap.size)(hs:Sd R l i at' (k+1) (s++[k])):SmAt (wq.setCell ⟨gS,k,none⟩ (.int .i64 1)) wr gS R l i at' k v8 s:=by
 refine⟨own_set h.own (fun q=>by have:=gown_low h.own q;omega) _ _,?_,hs,grown_trans h.world (grown_setCell _ _ _)⟩
 have h9:=h.seen.set k (.int .i64 1)
 rw [seenV_set (S':=markB R l i (s++[k])) (fun q=>mark_snoc q)] at h9
 exact h9
theorem SmAt.found{wq w9 wr:World}{gS:Nat}{R:List (Nat × Nat)}{l:List Nat}{i at' k:Nat}{v8 v9:Value}{s:List Nat}(h:SmAt wq wr gS R l i at' k v8 s)(ho:GOwn encI 1 3 w9 wr.heap.size v9 (s++[k]))(hg:wq.grownBy w9 v8.ownBlock)(hgs:gS<wr.heap.size):SdAt w9 wr gS R l i at' (k+1) v9 (s++[k]):=by
 refine⟨ho,h.seen.kept hg (fun q => ?_),h.sd,?_⟩
 ·
  have:=gown_low h.own q.symm;omega
 ·
  cases hv:v8.ownBlock with
  | none=>rw [hv] at hg;exact⟨hg.os.trans h.world.os,hg.tape.trans h.world.tape,hg.output.trans h.world.output,Nat.le_trans h.world.size hg.size,fun q hq hn=>(hg.block q (Nat.lt_of_lt_of_le hq h.world.size) (by intro e;cases e)).trans (h.world.block q hq hn)⟩
  | some g2=>rw [hv] at hg;exact grown_far h.world (gown_low h.own hv) hg
theorem iown_more{w:World}{B:Nat}{v:Value}{s:List Nat}{k:Nat}(h:w.ownsRow B 3 1 v (s.length+1) (s.flatMap encI++encI k)):∃(p:Option Addr) (c:Nat),v=.slice p (s++[k]).length c∧GOwn encI 1 3 w B v (s++[k]):=by
 have h2:=GOwn.snoc (x:=k) h
 obtain⟨a,cap,e,_⟩:=irow_at h2.row
 exact⟨a,cap,e,h2⟩
theorem near_lead(R:List (Nat × Nat))(i j:Nat):nearB R i j=(leadB R i j || leadB R j i):=rfl
theorem side_pair(R:List (Nat × Nat))(l:List Nat)(i:Nat):(sideM R l i).Pairwise (· < ·):=by unfold sideM;exact(List.pairwise_lt_range).filter _
theorem heads_few(R:List (Nat × Nat))(l:List Nat)(i:Nat):(headsM R l i).length≤i:=by unfold headsM;exact Nat.le_trans (List.length_filter_le _ _) (by rw [List.length_range];exact Nat.le_refl _)
theorem own_baseS{w:World}{B B':Nat}{e:TypeId}{sz n:Nat}{v:Value}{xs:List Value}(h:w.ownsRow B e sz v n xs)(hB:B'≤B):w.ownsRow B' e sz v n xs:=by
 refine⟨h.1,h.2.imp id ?_⟩
 rintro⟨b,cap,cur,h1,h2,h3⟩
 exact⟨b,cap,cur,h1,Nat.le_trans hB h2,h3⟩
theorem own_byB{α β:Type}{enc:α→List Value}{enc':β→List Value}{sz sz':Nat}{e e':TypeId}{w w':World}{B B':Nat}{v v':Value}{xs:List α}{ys:List β}(h:GOwn enc sz e w B v xs)(h':GOwn enc' sz' e' w B' v' ys)(hn:e≠e')(hgw:w.grownBy w' v'.ownBlock):GOwn enc sz e w' B v xs:=by
 refine own_grown h hgw ?_
 rcases h.2 with⟨rfl,_⟩|⟨g,cap,cur,rfl,_,hg,_⟩
 ·
  exact .inl rfl
 ·
  rcases h'.2 with⟨rfl,_⟩|⟨g',cap',cur',rfl,_,hg',_⟩
  ·
   exact .inr (fun q=>by cases q)
  ·
   refine .inr (fun q => ?_)
   simp only [Value.ownBlock,Option.some.injEq] at q
   subst q
   rw [hg] at hg'
   simp only [Option.some.injEq,Obj.cells.injEq] at hg'
   exact hn hg'.2.1
def SdRel(wr:World)(gS:Nat)(R:List (Nat × Nat))(l:List Nat)(i:Nat)(v8 v9:Value)(wq:World):Prop:=∃(at' c:Nat) (p:Option Addr) (s:List Nat),v9=.int .i64 at'∧at'≤s.length∧v8=.slice p s.length c∧Hid (SdAt wq wr gS R l i at' 0 v8 s)
def SkRel(wr:World)(gS:Nat)(R:List (Nat × Nat))(l:List Nat)(i at':Nat)(v8 v37:Value)(wq:World):Prop:=∃(k c:Nat) (p:Option Addr) (s:List Nat),v37=.int .i64 k∧k≤l.length∧at'<s.length∧v8=.slice p s.length c∧Hid (SdAt wq wr gS R l i at' k v8 s)
attribute [local irreducible] sideM headsM seenB markB headB nearB leadB seenV
set_option maxHeartbeats 16000000 in
set_option maxRecDepth 100000 in
theorem bsides_any(r n:Nat)(R:List (Nat × Nat))(v:Value)(l:List Nat)(w:World)(h:RelAt w r n R)(hv:GRow encI 1 w v l)(hl:∀ i∈l,i≤1000000)(hn:l.length≤1000000)(h0:0<l.length) :
  Calls Tryz.prog 165 #[.pointer (some ⟨r,0,none⟩),v] w (SidesRes w (sidesM R l)):=by
 obtain⟨a,cap,rfl,h1,h2,hc⟩:=irow_at hv
 unfold maxLen at h2
 obtain⟨b,off,rfl,sb,hcb⟩:=hc.resolve_left (by omega)
 obtain⟨m,hmm⟩:∃ m,m=l.length:=⟨_,rfl⟩
 have HC:=Lib.hid hcb
 have HR:=Lib.hid h
 have HL:=Lib.hid hl
 have HZ:=Lib.hid (seenV_zero m)
 have hq:8*m≤281474976710656:=by omega
 have hmx:m≤maxLen:=by unfold maxLen;omega
 rw [← hmm] at h1 hn h0 ⊢
 have HM:=Lib.hid hmm
 clear hv hcb h hl hc hmm
 go_enter Tryz.func165,Tryz.ntmps165
 go_upto_region 3 with(at_make;refine wpList_make_zeros slzIntE rfl _ _ rfl w.heap.size m _ rfl rfl rfl hq hmx (Nat.le_refl _) ?_;intro w1 ho1 hg1)
 have HB1:=Lib.hid (grown_over' hg1 (fun g hg=>by cases hg))
 obtain⟨hA,_⟩:=own_full ho1
 obtain⟨gS,hg⟩:∃ g,g=w.heap.size:=⟨_,rfl⟩
 rw [← hg] at hA ⊢
 rw [← HZ.out] at hA
 have HA:=Lib.hid hA
 have hgl:w.heap.size≤gS:=by omega
 have hs1:=hA.arr.lt
 clear hA ho1 hg1 hg
 have HS0:Hid (SiAt w1 w1 gS R l 0 (.slice none 0 0) []):=Lib.hid ⟨gown_nil _ _,fun x hx=>absurd hx (List.not_mem_nil),by unfold headsM;rfl,(by
  have e:seenB R l 0=fun _=>false:=by funext k;unfold seenB headsM;rfl
  rw [e,← HM.out];exact HA.out),⟨rfl,rfl,rfl,Nat.le_refl _,fun _ _ _=>rfl⟩⟩
 go_wp2_with fail
 go_loopw [5,16] (fun v5 v16 wr=>SiRel w1 gS R l v5 v16 wr) (fun _ v16 _=>m - (intOf v16).toNat)
 case atStart=>exact⟨0,[],by omega,rfl,HS0⟩
 case round =>
  obtain⟨i,xs,hi,rfl,HI⟩:=hrel
  rename World=>wr
  have sg:=HI.out.seen.arr.lt
  by_cases hlt:i<m
  ·
   have c0:=HI.out.seen.arr.cell (seenV_get (S:=seenB R l i) (n:=l.length) (k:=i) (by rw [← HM.out];exact hlt))
   rw [seen_head] at c0
   cases hh:headB R l i with
   | false =>
    have HH:=Lib.hid hh
    have c1:wr.cell? ⟨gS,i,none⟩=some (.int .i64 1):=by rw [c0,hh];rfl
    have HI2:Hid (SiAt wr w1 gS R l (i+1) u5 xs):=Lib.hid ⟨HI.out.out,HI.out.rows,(by rw [HI.out.bare,heads_succ,HH.out];simp),(by rw [seen_next_no HH.out];exact HI.out.seen),HI.out.world⟩
    clear c0 hh
    go_wp2_with fail
    go_roundw
    case rel=>exact⟨i+1,xs,by rw [← HM.out];exact hlt,by go_num,HI2⟩
    case measure=>simp [intOf];omega
   | true =>
    have HH:=Lib.hid hh
    have c1:wr.cell? ⟨gS,i,none⟩=some (.int .i64 0):=by rw [c0,hh];rfl
    clear c0 hh
    have f1:=HI.out.seen.arr.free i
    have ez:(wr.setCell ⟨gS,i,none⟩ (.int .i64 1)).heap.size=wr.heap.size:=by simp
    have HW2:Hid (SdAt ((wr.setCell ⟨gS,i,none⟩ (.int .i64 1)).alloc (.cells #[.int .i64 i] 3)) wr gS R l i 0 0 (.slice (some ⟨wr.heap.size,0,none⟩) [i].length 1) [i]):=Lib.hid ⟨(by
      have h9:=own_lit28s (enc:=encI) (sz:=1) (wr.setCell ⟨gS,i,none⟩ (.int .i64 1)) 3 [i] wr.heap.size rfl (by show 1≤maxLen;unfold maxLen;omega) (by rw [ez];exact Nat.le_refl _)
      rw [ez] at h9
      exact h9),(by
      have h9:=(HI.out.seen.set i (.int .i64 1)).over (below_new (.cells #[.int .i64 i] 3))
      rw [seenV_set (S':=markB R l i [i]) (fun q=>by have:=mark_snoc (R:=R) (l:=l) (i:=i) (k:=i) (s:=[]) q;rw [List.nil_append] at this;rw [this];unfold markB;simp)] at h9
      exact h9),sd_start (by rw [← HM.out];exact hlt),grown_belowS (grown_setCell _ _ _) (below_new _)⟩
    have hil:i<l.length:=by rw [← HM.out];exact hlt
    go_upto_region 9 with(fail)
    generalize hw2:(wr.setCell ⟨gS,i,none⟩ (.int .i64 1)).alloc (.cells #[.int .i64 i] 3)=w2 at *
    clear hw2 c1 sg f1
    go_wp2_with fail
    go_loopw [8,9] (fun v8 v9 wq=>SdRel wr gS R l i v8 v9 wq) (fun _ v9 _=>m - (intOf v9).toNat)
    case atStart=>exact⟨0,1,some ⟨wr.heap.size,0,none⟩,[i],rfl,by simp,rfl,HW2⟩
    case round =>
     obtain⟨at',c,p,s,rfl,hat,rfl,HD⟩:=hrel
     rename World=>wq
     have hsl:=sd_len HD.out.sd
     rw [← HM.out] at hsl
     by_cases hlt2:at'<s.length
     ·
      go_wp2_with fail
      go_loopw [8,37] (fun v8 v37 wp=>SkRel wr gS R l i at' v8 v37 wp) (fun _ v37 _=>m - (intOf v37).toNat)
      case atStart=>exact⟨0,c,p,s,rfl,Nat.zero_le _,hlt2,rfl,HD⟩
      case round =>
       obtain⟨k,c2,p2,s2,rfl,hk,hat2,rfl,HE⟩:=hrel
       rename World=>wp
       rw [← HM.out] at hk
       have hsl2:=sd_len HE.out.sd
       rw [← HM.out] at hsl2
       by_cases hlt3:k<m
       ·
        obtain⟨u,hu⟩:=get_of_lt hat2
        have hul:=(HE.out.sd.near u (List.mem_of_getElem? hu)).right
        obtain⟨xu,hxu⟩:=get_of_lt hul
        obtain⟨xk,hxk⟩:=get_of_lt (xs:=l) (i:=k) (by rw [← HM.out];exact hlt3)
        have hgu:l.getD u 0=xu:=by rw [List.getD_eq_getElem?_getD,hxu];rfl
        have hgk:l.getD k 0=xk:=by rw [List.getD_eq_getElem?_getD,hxk];rfl
        have hxul:=HL.out xu (List.mem_of_getElem? hxu)
        have hxkl:=HL.out xk (List.mem_of_getElem? hxk)
        have hbw:Below w.heap.size w wp:=HB1.out.grown (grown_trans HI.out.world HE.out.world) HB1.out.size (fun k hk=>by cases hk;exact hgl)
        have HRp:=Lib.hid (HR.out.over hbw)
        obtain⟨sl0,l0⟩:=HC.out u xu hxu wp hbw
        have l1:=(HC.out k xk hxk wp hbw).2
        obtain⟨p3,c3,e3,z1,z2,hcs⟩:=irow_at HE.out.own.row
        cases e3
        unfold maxLen at z2
        obtain⟨b2,off2,rfl,sb2,hcs2⟩:=hcs.resolve_left (by omega)
        obtain⟨_,m0⟩:=hcs2 at' u hu wp (Below.refl _ _)
        have d0:=HE.out.seen.arr.cell (seenV_get (S:=markB R l i s2) (n:=l.length) (k:=k) (by rw [← HM.out];exact hlt3))
        have sgp:=HE.out.seen.arr.lt
        have hgr:gS<wr.heap.size:=Nat.lt_of_lt_of_le hs1 HI.out.world.size
        have HHa:=Lib.hid (rchHas_any r n xu xk R _ (HRp.out.over (Below.refl _ _).drew) hxul)
        have HHb:=Lib.hid (rchHas_any r n xk xu R _ (HRp.out.over (Below.refl _ _).drew) hxkl)
        have HU:=Lib.hid hu
        have HNu:Hid (nearB R (l.getD u 0) (l.getD k 0)=(leadB R xu xk || leadB R xk xu)):=Lib.hid (by rw [hgu,hgk];exact near_lead R xu xk)
        have hkl:k<l.length:=by rw [← HM.out];exact hlt3
        have hum:u<m:=by rw [HM.out];exact hul
        clear hu hxu hxk hgu hgk hcs hcs2
        cases hmk:markB R l i s2 k with
        | true =>
         have HN:Hid (Sd R l i at' (k+1) s2):=Lib.hid (sd_no HE.out.sd HU.out (by
          cases hnn:nearB R (l.getD u 0) (l.getD k 0) with
          | false=>exact .inl rfl
          | true =>
           rw [mark_not HH.out HE.out.sd HU.out hkl hnn] at hmk
           exact .inr (List.contains_iff_mem.1 hmk)))
         rw [hmk] at d0
         have d1:wp.cell? ⟨gS,k,none⟩=some (.int .i64 1):=d0
         clear d0 hmk HHa HHb
         go_upto_region 15 with(fail)
         have hcur:Below wp.heap.size wp wp.drew:=(Below.refl _ _).drew
         refine wp_region_lex (C:=IsOver wp) 35 [] (by kernel_rfl) (by kernel_rfl) (isOver_of hcur) ?_
         simp only [List.take_succ_cons,List.take_zero,List.drop_succ_cons,List.drop_zero]
         repeat(first|(refine lex_skip rfl rfl ?_;simp only [Act.put,List.setIfInBounds_toArray,List.set_cons_succ,List.set_cons_zero])|(refine lex_one rfl ?_;go_big_quiet_step (fail);refine wpQuiet_nil ?_)|(refine lex_loud rfl ?_;go_wp2_with (first|(fail));refine⟨isOver_of hcur,?_⟩))
         refine lex_end ?_
         go_wp2_with fail
         go_roundw
         case rel=>exact⟨k+1,c2,_,s2,by go_num,hkl,hat2,rfl,Lib.hid (SdAt.go (HE.out.over hcur) HN.out)⟩
         case measure=>simp [intOf];omega
        | false =>
         have hks:k ∉ s2:=by
          intro hm;unfold markB at hmk
          rw [List.contains_iff_mem.2 hm,Bool.or_true] at hmk;cases hmk
         rw [hmk] at d0
         have d1:wp.cell? ⟨gS,k,none⟩=some (.int .i64 0):=d0
         clear d0 hmk
         cases ha:leadB R xu xk with
         | true =>
          rw [ha] at HHa HNu
          have HN:Hid (Sd R l i at' (k+1) (s2++[k])):=Lib.hid (sd_yes HE.out.sd HU.out HNu.out hkl hks)
          clear hks HHb ha
          go_upto_region 15 with(fail)
          have hcur:Below wp.heap.size wp wp.drew:=(Below.refl _ _).drew
          refine wp_region_lex (C:=IsOver wp) 35 [] (by kernel_rfl) (by kernel_rfl) (isOver_of hcur) ?_
          simp only [List.take_succ_cons,List.take_zero,List.drop_succ_cons,List.drop_zero]
          repeat(first|(refine lex_skip rfl rfl ?_;simp only [Act.put,List.setIfInBounds_toArray,List.set_cons_succ,List.set_cons_zero])|(refine lex_one rfl ?_;go_big_quiet_step (fail);refine wpQuiet_nil ?_)|(refine lex_loud rfl ?_;go_wp2_with (first|(go_at_call 193;(with_reducible refine(HHa.out).mono ?_);rintro e w' ⟨rfl,rfl⟩));refine⟨isOver_of hcur,?_⟩))
          refine lex_end ?_
          have HEw:=Lib.hid (HE.out.over hcur)
          generalize hwp:wp.drew=wo at *
          have d0:=HEw.out.seen.arr.cell (seenV_get (S:=markB R l i s2) (n:=l.length) (k:=k) hkl)
          have d2:=HEw.out.seen.arr.free k
          have sgo:=HEw.out.seen.arr.lt
          have HEm:=Lib.hid (HEw.out.mark hgr (show w1.heap.size≤wr.heap.size from HI.out.world.size) HN.out)
          clear hcur hwp
          go_upto_region 17 with(fail)
          generalize hw3:wo.setCell ⟨gS,k,none⟩ (.int .i64 1)=w3 at *
          clear hw3 d0 d2 sgo
          have hN:s2.length+1≤1099511627776:=by omega
          have hB3:=HEm.out.world.size
          have HO3:=Lib.hid HEm.out.own
          go_wp2_with (at_builtin;(first|refine wpList_append_newD slIntI rfl _ _ rfl wr.heap.size _ _ (drawn_alloc_drewN _ _ _) 1 _ _ _ HO3.out rfl rfl rfl rfl hN (by decide) hB3 ?_|refine wpList_append_newD slIntI rfl _ _ rfl wr.heap.size _ _ (drawn_drew _) 1 _ _ _ HO3.out rfl rfl rfl rfl hN (by decide) hB3 ?_|refine wpList_append_newD slIntI rfl _ _ rfl wr.heap.size _ _ (drawn_drewN _ _) 1 _ _ _ HO3.out rfl rfl rfl rfl hN (by decide) hB3 ?_|refine wpList_append_newD slIntI rfl _ _ rfl wr.heap.size _ _ (drawn_refl _) 1 _ _ _ HO3.out rfl rfl rfl rfl hN (by decide) hB3 ?_);intro v9 w9 ho9 hg9)
          obtain⟨p9,c9,e9,hO9⟩:=iown_more ho9
          subst e9
          go_roundw
          case rel=>exact⟨k+1,c9,p9,s2++[k],by go_num,hkl,by rw [List.length_append];omega,rfl,Lib.hid (HEm.out.found hO9 hg9 hgr)⟩
          case measure=>simp [intOf];omega
         | false =>
          cases hb:leadB R xk xu with
          | true =>
           rw [ha] at HHa HNu
           rw [hb] at HHb HNu
           have HN:Hid (Sd R l i at' (k+1) (s2++[k])):=Lib.hid (sd_yes HE.out.sd HU.out HNu.out hkl hks)
           clear hks ha hb
           go_upto_region 15 with(fail)
           have hcur:Below wp.heap.size wp wp.drew:=(Below.refl _ _).drew
           refine wp_region_lex (C:=IsOver wp) 35 [] (by kernel_rfl) (by kernel_rfl) (isOver_of hcur) ?_
           simp only [List.take_succ_cons,List.take_zero,List.drop_succ_cons,List.drop_zero]
           repeat(first|(refine lex_skip rfl rfl ?_;simp only [Act.put,List.setIfInBounds_toArray,List.set_cons_succ,List.set_cons_zero])|(refine lex_one rfl ?_;go_big_quiet_step (fail);refine wpQuiet_nil ?_)|(refine lex_loud rfl ?_;go_wp2_with (first|(go_at_call 193;(with_reducible refine(HHa.out).mono ?_);rintro e w' ⟨rfl,rfl⟩)|(go_at_call 193;(with_reducible refine(HHb.out).mono ?_);rintro e w' ⟨rfl,rfl⟩));refine⟨isOver_of hcur,?_⟩))
           refine lex_end ?_
           have HEw:=Lib.hid (HE.out.over hcur)
           generalize hwp:wp.drew=wo at *
           have d0:=HEw.out.seen.arr.cell (seenV_get (S:=markB R l i s2) (n:=l.length) (k:=k) hkl)
           have d2:=HEw.out.seen.arr.free k
           have sgo:=HEw.out.seen.arr.lt
           have HEm:=Lib.hid (HEw.out.mark hgr (show w1.heap.size≤wr.heap.size from HI.out.world.size) HN.out)
           clear hcur hwp
           go_upto_region 17 with(fail)
           generalize hw3:wo.setCell ⟨gS,k,none⟩ (.int .i64 1)=w3 at *
           clear hw3 d0 d2 sgo
           have hN:s2.length+1≤1099511627776:=by omega
           have hB3:=HEm.out.world.size
           have HO3:=Lib.hid HEm.out.own
           go_wp2_with (at_builtin;(first|refine wpList_append_newD slIntI rfl _ _ rfl wr.heap.size _ _ (drawn_alloc_drewN _ _ _) 1 _ _ _ HO3.out rfl rfl rfl rfl hN (by decide) hB3 ?_|refine wpList_append_newD slIntI rfl _ _ rfl wr.heap.size _ _ (drawn_drew _) 1 _ _ _ HO3.out rfl rfl rfl rfl hN (by decide) hB3 ?_|refine wpList_append_newD slIntI rfl _ _ rfl wr.heap.size _ _ (drawn_drewN _ _) 1 _ _ _ HO3.out rfl rfl rfl rfl hN (by decide) hB3 ?_|refine wpList_append_newD slIntI rfl _ _ rfl wr.heap.size _ _ (drawn_refl _) 1 _ _ _ HO3.out rfl rfl rfl rfl hN (by decide) hB3 ?_);intro v9 w9 ho9 hg9)
           obtain⟨p9,c9,e9,hO9⟩:=iown_more ho9
           subst e9
           go_roundw
           case rel=>exact⟨k+1,c9,p9,s2++[k],by go_num,hkl,by rw [List.length_append];omega,rfl,Lib.hid (HEm.out.found hO9 hg9 hgr)⟩
           case measure=>simp [intOf];omega
          | false =>
           rw [ha] at HHa HNu
           rw [hb] at HHb HNu
           have HN:Hid (Sd R l i at' (k+1) s2):=Lib.hid (sd_no HE.out.sd HU.out (.inl HNu.out))
           clear hks ha hb
           go_upto_region 15 with(fail)
           have hcur:Below wp.heap.size wp wp.drew:=(Below.refl _ _).drew
           refine wp_region_lex (C:=IsOver wp) 35 [] (by kernel_rfl) (by kernel_rfl) (isOver_of hcur) ?_
           simp only [List.take_succ_cons,List.take_zero,List.drop_succ_cons,List.drop_zero]
           repeat(first|(refine lex_skip rfl rfl ?_;simp only [Act.put,List.setIfInBounds_toArray,List.set_cons_succ,List.set_cons_zero])|(refine lex_one rfl ?_;go_big_quiet_step (fail);refine wpQuiet_nil ?_)|(refine lex_loud rfl ?_;go_wp2_with (first|(go_at_call 193;(with_reducible refine(HHa.out).mono ?_);rintro e w' ⟨rfl,rfl⟩)|(go_at_call 193;(with_reducible refine(HHb.out).mono ?_);rintro e w' ⟨rfl,rfl⟩));refine⟨isOver_of hcur,?_⟩))
           refine lex_end ?_
           go_wp2_with fail
           go_roundw
           case rel=>exact⟨k+1,c2,_,s2,by go_num,hkl,hat2,rfl,Lib.hid (SdAt.go (HE.out.over hcur) HN.out)⟩
           case measure=>simp [intOf];omega
       ·
        obtain rfl:k=m:=by omega
        have HE2:Hid (SdAt wp wr gS R l i (at'+1) 0 (.slice p2 s2.length c2) s2):=Lib.hid ⟨HE.out.own,HE.out.seen,sd_next (by have:=HE.out.sd;rwa [HM.out] at this),HE.out.world⟩
        go_wp2_with fail
        go_roundw
        case rel=>exact⟨at'+1,c2,p2,s2,by go_num,hat2,rfl,HE2⟩
        case measure=>simp [intOf];omega
     ·
      obtain rfl:at'=s.length:=by omega
      have hsp:0<s.length:=List.length_pos_of_mem HD.out.sd.self
      obtain⟨g8,c8,e8,hA8⟩:=own_at (show World.ownsRow _ _ _ _ _ _ _ from HD.out.own) (by omega)
      obtain⟨rfl,hcc,rfl⟩:=Value.slice.inj e8
      clear hcc e8
      have hg8:wr.heap.size≤g8:=gown_low HD.out.own rfl
      have HSE:Hid (∀ x,x∈sideM R l i↔x∈s):=Lib.hid fun x=>mem_sideM.trans (sd_end HD.out.sd x).symm
      have HSP:Hid ((sideM R l i).Pairwise (· < ·)):=Lib.hid (side_pair R l i)
      have HA8:=Lib.hid hA8
      have hgr:gS<wr.heap.size:=Nat.lt_of_lt_of_le hs1 HI.out.world.size
      have hb1r:=HI.out.world.size
      clear hA8
      go_wp2_with fail
      refine(sortI_any HA8.out (by omega) HD.out.sd.nodup HSP.out HSE.out).mono ?_
      rintro e w4 ⟨rfl,hA4,hg4⟩
      have hsl4:(sideM R l i).length=s.length:=Nat.le_antisymm (nodup_lenN (HSP.out.imp fun h=>Nat.ne_of_lt h) fun x hx=>(HSE.out x).1 hx) (nodup_lenN HD.out.sd.nodup fun x hx=>(HSE.out x).2 hx)
      have HW4:Hid (wr.grownBy w4 (some gS)):=Lib.hid (grown_far HD.out.world hg8 hg4)
      have HO4:Hid (GOwn encI 1 3 w4 w1.heap.size (.slice (some ⟨g8,0,none⟩) s.length c) (sideM R l i)):=Lib.hid (by
       have h9:=hA4.own
       unfold GOwn
       rw [hsl4]
       exact own_baseS h9 hb1r)
      have HSn4:Hid (ArrT w4 gS 3 (seenV (seenB R l (i+1)) l.length)):=Lib.hid (by
       have h9:=HD.out.seen.kept hg4 (fun q=>by cases q;omega)
       rw [show markB R l i s=seenB R l (i+1) from funext fun q=>mark_end HH.out HD.out.sd q] at h9
       exact h9)
      have HX4:Hid (GOwn encSd 1 89 w4 w1.heap.size u5 xs):=Lib.hid (own_grown HI.out.out HW4.out (.inr fun q=>by have:=gown_low HI.out.out q;omega))
      have HR4:Hid (∀ x∈xs,GOwn encI 1 3 w4 w1.heap.size x.v x.s):=Lib.hid fun x hx=>own_grown (HI.out.rows x hx) HW4.out (.inr fun q=>by have:=gown_low (HI.out.rows x hx) q;omega)
      have hxl:xs.length≤m:=by
       have h9:=congrArg List.length HI.out.bare
       rw [List.length_map,List.length_map] at h9
       have:=heads_few R l i
       omega
      have hN4:xs.length+1≤1099511627776:=by omega
      have hB4:w1.heap.size≤w4.heap.size:=Nat.le_trans hb1r HW4.out.size
      clear hA4 hg4
      go_wp2_with (at_builtin;(first|refine wpList_append_newD slSide rfl _ _ rfl w1.heap.size _ _ (drawn_alloc_drewN _ _ _) 1 _ _ _ HX4.out rfl rfl rfl rfl hN4 (by decide) hB4 ?_|refine wpList_append_newD slSide rfl _ _ rfl w1.heap.size _ _ (drawn_drew _) 1 _ _ _ HX4.out rfl rfl rfl rfl hN4 (by decide) hB4 ?_|refine wpList_append_newD slSide rfl _ _ rfl w1.heap.size _ _ (drawn_drewN _ _) 1 _ _ _ HX4.out rfl rfl rfl rfl hN4 (by decide) hB4 ?_|refine wpList_append_newD slSide rfl _ _ rfl w1.heap.size _ _ (drawn_refl _) 1 _ _ _ HX4.out rfl rfl rfl rfl hN4 (by decide) hB4 ?_);intro v9 w9 ho9 hg9)
      go_roundw
      case rel =>
       refine⟨i+1,xs++[⟨sideM R l i,.slice (some ⟨g8,0,none⟩) s.length c⟩],by rw [← HM.out];exact hlt,by go_num,Lib.hid ⟨GOwn.snoc (x:=(⟨sideM R l i,.slice (some ⟨g8,0,none⟩) s.length c⟩:SideL)) ho9,fun x hx => ?_,?_,HSn4.out.grown HX4.out (by decide) hg9,?_⟩⟩
       ·
        rcases List.mem_append.1 hx with hx|hx
        ·
         exact own_byB (HR4.out x hx) HX4.out (by decide) hg9
        ·
         rw [List.mem_singleton.1 hx];exact own_byB HO4.out HX4.out (by decide) hg9
       ·
        rw [List.map_append,HI.out.bare,heads_succ,HH.out];simp
       ·
        have hw4:w1.grownBy w4 (some gS):=grown_trans HI.out.world HW4.out
        cases hv:u5.ownBlock with
        | none=>rw [hv] at hg9;exact⟨hg9.os.trans hw4.os,hg9.tape.trans hw4.tape,hg9.output.trans hw4.output,Nat.le_trans hw4.size hg9.size,fun q hq hn=>(hg9.block q (Nat.lt_of_lt_of_le hq hw4.size) (by intro e;cases e)).trans (hw4.block q hq hn)⟩
        | some g2=>rw [hv] at hg9;exact grown_far hw4 (gown_low HX4.out hv) hg9
      case measure=>simp [intOf];omega
  ·
   obtain rfl:i=m:=by have:=HM.out;omega
   have HF:Hid (GOwn encSd 1 89 wr w.heap.size u5 xs∧(∀ x∈xs,GRow encI 1 wr x.v x.s)∧xs.map (·.s)=sidesM R l∧Below w.heap.size w wr):=Lib.hid ⟨HI.out.out.base HB1.out.size,fun x hx=>(HI.out.rows x hx).row,(by rw [HI.out.bare];unfold sidesM;rw [HM.out]),HB1.out.grown HI.out.world HB1.out.size (fun k hk=>by cases hk;exact hgl)⟩
   go_wp2_with fail
   go_ret
   exact⟨_,xs,rfl,HF.out⟩
end Go.Proofs.YtanfebljiblhbaaGreatDoor
namespace Go.Proofs.YtanfebljiblhbaaGreatDoor
open Go Go.RowKit

/-- what is in a block of a row: in blocks from lo on, that are there, and apart from g -/
def Fit(lo:Nat)(w:World)(g:Option Nat)(b:Nat):Prop:=lo≤b∧b<w.heap.size∧some b≠g
structure BX (w:World) (lo:Nat) (v:Value) (xs:List BlL):Prop where
 own:GOwn encBl 3 183 w lo v xs
 ins:BIns (Fit lo w v.ownBlock) w xs
theorem bx_nil(w:World)(lo:Nat):BX w lo (.slice none 0 0) []:=⟨gown_nil _ _,bins_nil⟩
theorem BX.over{w w':World}{lo:Nat}{v:Value}{xs:List BlL}(h:BX w lo v xs)(hb:Below w.heap.size w w'):BX w' lo v xs:=
 ⟨h.own.over hb,BIns.mono (fun b hb'=>⟨hb'.1,Nat.lt_of_lt_of_le hb'.2.1 hb.size,hb'.2.2⟩) (fun _ _ _ h=>h.over hb) xs h.ins⟩
theorem BX.base{w:World}{lo lo':Nat}{v:Value}{xs:List BlL}(h:BX w lo v xs)(hl:lo'≤lo):BX w lo' v xs:=
 ⟨h.own.base hl,BIns.mono (fun b hb'=>⟨by have:=hb'.1;omega,hb'.2⟩) (fun _ _ _ h=>h) xs h.ins⟩
/-- a row of blocks that another block of memory grew: kept -/
theorem grow_keptB{w w':World}{g:Option Nat}(hg:w.grownBy w' g){v:Value}{xs:List BlL}(hb:∀ b,v.ownBlock=some b→some b≠g)(h:GRow encBl 3 w v xs):GRow encBl 3 w' v xs:=by
 obtain⟨h0,a,cap,rfl,h1,h2,h3,h4⟩:=h
 refine⟨h0,a,cap,rfl,h1,h2,h3,fun hp => ?_⟩
 obtain⟨b,off,rfl,hb2,hc⟩:=h4 hp
 have hne:some b≠g:=hb b rfl
 refine⟨b,off,rfl,Nat.lt_of_lt_of_le hb2 hg.size,fun j u hu => ?_⟩
 rw [World.cell?_of_block (w:=w) (w':=w') (a:=⟨b,off+j,none⟩) (hg.block b hb2 hne)]
 exact hc j u hu
/-- a block appended -/
theorem BX.snoc{w w9:World}{lo lo0:Nat}{v v9:Value}{xs:List BlL}{x:BlL}(h:BX w lo v xs)(hx:BIn (fun b=>lo0≤b∧b<w.heap.size∧some b≠v.ownBlock) w x)(hlo:lo≤lo0)
  (ho:GOwn encBl 3 183 w9 lo v9 (xs++[x])) (hg:w.grownBy w9 v.ownBlock) (hk:v9.ownBlock=v.ownBlock∨∃ k,v9.ownBlock=some k∧w.heap.size≤k):BX w9 lo v9 (xs++[x]):=by
 have hne:∀ b,b<w.heap.size→some b≠v.ownBlock→some b≠v9.ownBlock:=by
  intro b hb hn e
  rcases hk with h1|⟨k,h1,h2⟩
  ·
   exact hn (e.trans h1)
  ·
   rw [h1] at e;cases e;omega
 refine⟨ho,bins_append ?_ (bins_one ?_)⟩
 ·
  exact BIns.mono (fun b hb=>⟨hb.1,Nat.lt_of_lt_of_le hb.2.1 hg.size,hne b hb.2.1 hb.2.2⟩) (fun u us hu hr=>grow_keptB hg (fun b hb=>(hu b hb).2.2) hr) xs h.ins
 ·
  exact BIn.mono (fun b hb=>⟨by have:=hb.1;omega,Nat.lt_of_lt_of_le hb.2.1 hg.size,hne b hb.2.1 hb.2.2⟩) (fun u us hu hr=>grow_keptB hg (fun b hb=>(hu b hb).2.2) hr) x hx
theorem fit_own{w:World}{lo:Nat}{v:Value}{xs:List BlL}(h:BX w lo v xs){b:Nat}(hb:v.ownBlock=some b):lo≤b∧b<w.heap.size:=⟨gown_low h.own hb,gown_size h.own hb⟩
/-- a row of blocks as what is in a block -/
theorem BX.block{w:World}{lo:Nat}{v:Value}{xs:List BlL}(h:BX w lo v xs)(k n:Int):BIn (fun b=>lo≤b∧b<w.heap.size) w (.mk k n v xs):=by
 refine bin_mk.2 ⟨h.own.row,?_,fun b hb=>fit_own h hb,BIns.mono (fun b hb=>⟨hb.1,hb.2.1⟩) (fun _ _ _ h=>h) xs h.ins⟩
 rcases h.own.2 with⟨rfl,_⟩|⟨g,cap,cur,rfl,_⟩ <;> rfl
theorem BIn.weak{A A':Nat→Prop}{w:World}{x:BlL}(h:BIn A w x)(hA:∀ b,A b→A' b):BIn A' w x:=BIn.mono hA (fun _ _ _ h=>h) x h
def PcRes(w:World)(m:BlkM)(e:Ending)(w':World):Prop:=∃(k n:Int) (sv:Value) (s:List BlL),e=.returned (.agg #[.int .i64 k,.int .i64 n,sv])∧bareB (.mk k n sv s)=m∧BIn (fun b=>w.heap.size≤b∧b<w'.heap.size) w' (.mk k n sv s)∧Below w.heap.size w w'
def OfRes(w:World)(ms:List BlkM)(e:Ending)(w':World):Prop:=∃ v xs,e=.returned v∧BX w' w.heap.size v xs∧bareL xs=ms∧Below w.heap.size w w'
end Go.Proofs.YtanfebljiblhbaaGreatDoor
namespace Go.Proofs.YtanfebljiblhbaaGreatDoor
open Go Go.RowKit

theorem rowBlk:RowT Tryz.prog 183 3:=rowT_of Tryz.underlying183 rfl (by kernel_rfl)
theorem things_nil(l:List Nat):thingsM l []=[]:=rfl
attribute [local irreducible] sidesM pieceM blkM thingsM
theorem piece_one(R:List (Nat × Nat))(F:List Nat→List BlkM)(i:Nat):pieceM R F [i]=lineB i:=by unfold pieceM;rw [if_pos (show [i].length=1 from rfl)];rfl
theorem piece_knot{R:List (Nat × Nat)}{F:List Nat→List BlkM}{l:List Nat}(h1:l.length≠1)(h2:(sidesM R l).length=1):pieceM R F l=.mk 3 0 (l.map lineB):=by unfold pieceM;rw [if_neg h1,if_pos h2]
theorem piece_fork{R:List (Nat × Nat)}{F:List Nat→List BlkM}{l:List Nat}(h1:l.length≠1)(h2:(sidesM R l).length≠1):pieceM R F l=.mk 2 0 ((sidesM R l).map fun s=>.mk 4 0 (F (thingsM l s))):=by unfold pieceM;rw [if_neg h1,if_neg h2]
set_option maxHeartbeats 8000000 in
set_option maxRecDepth 100000 in
theorem bpiece_one(r:Nat)(R:List (Nat × Nat))(F:List Nat→List BlkM)(v:Value)(i:Nat)(w:World)(hv:GRow encI 1 w v [i]) :
  Calls Tryz.prog 106 #[.pointer (some ⟨r,0,none⟩),v] w (PcRes w (pieceM R F [i])):=by
 obtain⟨a,cap,rfl,h1,h2,hc⟩:=irow_at hv
 unfold maxLen at h2
 obtain⟨b,off,rfl,sb,hcb⟩:=hc.resolve_left (by simp)
 have HA:=Lib.hid (arr_new w #[.int .i64 0,.int .i64 0,.slice none 0 0] 183)
 have HB:=Lib.hid (below_new (w:=w) (.cells #[.int .i64 0,.int .i64 0,.slice none 0 0] 183))
 obtain⟨sl,x0'⟩:=hcb 0 i rfl (w.alloc (.cells #[.int .i64 0,.int .i64 0,.slice none 0 0] 183)) (below_new _)
 have x0:(w.alloc (.cells #[.int .i64 0,.int .i64 0,.slice none 0 0] 183)).cell? ⟨b,off,none⟩=some (.int .i64 i):=x0'
 clear x0'
 have hP:=piece_one R F i
 clear hv hcb hc
 go_enter Tryz.func106,Tryz.ntmps106
 go_upto_region 1 with(fail)
 generalize hw0:w.alloc (.cells #[.int .i64 0,.int .i64 0,.slice none 0 0] 183)=w0 at *
 clear hw0
 have z0:=HA.out.cell (j:=0) rfl
 have z1:=HA.out.cell (j:=1) rfl
 have z2:=HA.out.cell (j:=2) rfl
 have sz:=HA.out.lt
 have f0:=HA.out.free 0
 have f1:=HA.out.free 1
 have f2:=HA.out.free 2
 have HPc:=Lib.hid hP
 clear hP
 go_wp2_with fail
 refine bodyPost_ret (v:=.agg #[.int .i64 1,.int .i64 i,.slice none 0 0]) (results_arr rowBlk rfl (((HA.out.set 0 _).set 1 _).set 2 _) rfl rfl) rfl ?_
 exact⟨1,i,.slice none 0 0,[],rfl,(lineL_bare i).trans HPc.out.symm,lineL_in _ _ i,(((HB.out.setCell (p:=⟨w.heap.size,0,none⟩) (Nat.le_refl _) (.int .i64 1)).setCell (p:=⟨w.heap.size,1,none⟩) (Nat.le_refl _) (.int .i64 i)).setCell (p:=⟨w.heap.size,2,none⟩) (Nat.le_refl _) (.slice none 0 0))⟩
theorem sides_lt{R:List (Nat × Nat)}{l:List Nat}{s:List Nat}(hs:s∈sidesM R l){k:Nat}(hk:k∈s):k<l.length:=by
 unfold sidesM at hs
 obtain⟨i,_,rfl⟩:=List.mem_map.1 hs
 exact(mem_sideM.1 hk).right
theorem things_step{l s:List Nat}{q u y:Nat}(hu:s[q]? = some u)(hy:l[u]? = some y):thingsM l (s.take (q+1))=thingsM l (s.take q)++[y]:=by
 unfold thingsM
 rw [take_one hu,List.map_append,List.map_cons,List.map_nil,List.getD_eq_getElem?_getD,hy];rfl
theorem sides_few(R:List (Nat × Nat))(l:List Nat):(sidesM R l).length≤l.length:=by unfold sidesM;rw [List.length_map];exact heads_few R l l.length
theorem things_le{R:List (Nat × Nat)}{l s:List Nat}(hl:∀ i∈l,i≤1000000)(hs:s∈sidesM R l):∀ i∈thingsM l s,i≤1000000:=by
 intro i hi
 unfold thingsM at hi
 obtain⟨k,hk,rfl⟩:=List.mem_map.1 hi
 have:=sides_lt hs hk
 rw [List.getD_eq_getElem?_getD,List.getElem?_eq_getElem this]
 exact hl _ (List.getElem_mem _)
theorem bare_len{ys:List BlL}{ss:List (List Nat)}{F:List Nat→BlkM}{j:Nat}(h:bareL ys=(ss.take j).map F):ys.length≤j:=by
 have:=congrArg List.length h
 rw [bareL_map,List.length_map,List.length_map,List.length_take] at this
 omega
/-- the sides of a piece made into blocks, as far as side j -/
structure FkAt (wr w2:World) (gb:Nat) (R:List (Nat × Nat)) (l:List Nat) (f:Nat) (xs:List SideL) (j:Nat) (p:Option Addr) (c:Nat) (ys:List BlL):Prop where
 box:ArrT wr gb 183 [.int .i64 2,.int .i64 0,.slice p ys.length c]
 sub:BX wr w2.heap.size (.slice p ys.length c) ys
 bare:bareL ys=((sidesM R l).take j).map fun s=>.mk 4 0 (blkM R f (thingsM l s))
 world:w2.grownBy wr (some gb)
def FkRel(w2:World)(gb:Nat)(R:List (Nat × Nat))(l:List Nat)(f:Nat)(xs:List SideL)(v31:Value)(wr:World):Prop:=∃(j:Nat) (p:Option Addr) (c:Nat) (ys:List BlL),j≤xs.length∧v31=.int .i64 j∧Hid (FkAt wr w2 gb R l f xs j p c ys)
def ThRel(wr:World)(l s:List Nat)(v9 v37:Value)(wq:World):Prop:=∃(q:Nat) (p:Option Addr) (c:Nat),q≤s.length∧v37=.int .i64 q∧v9=.slice p (thingsM l (s.take q)).length c∧Hid (GOwn encI 1 3 wq wr.heap.size (.slice p (thingsM l (s.take q)).length c) (thingsM l (s.take q)))∧Below wr.heap.size wr wq
theorem bareL_snoc(ys:List BlL)(x:BlL):bareL (ys++[x])=bareL ys++[bareB x]:=by rw [bareL_map,bareL_map,List.map_append];rfl
theorem BX.set{w:World}{lo gb k:Nat}{v u:Value}{xs:List BlL}(h:BX w lo v xs)(hg:gb<lo):BX (w.setCell ⟨gb,k,none⟩ u) lo v xs:=by
 refine⟨own_set h.own (fun q=>by have:=gown_low h.own q;omega) _ _,?_⟩
 exact BIns.mono (fun b hb=>⟨hb.1,by have:=hb.2.1;simpa using this,hb.2.2⟩) (fun us ys hu hr=>grow_keptB (grown_setCell (g:=gb) w k u) (fun b hb e=>by cases e;have:=(hu _ hb).1;omega) hr) xs h.ins
/-- one side more -/
theorem FkAt.step{wr wq w2 w5 w6:World}{gb:Nat}{R:List (Nat × Nat)}{l s:List Nat}{f j:Nat}{xs:List SideL}{p p6:Option Addr}{c c6:Nat}{ys ys5:List BlL}{sv5:Value}
  (h:FkAt wr w2 gb R l f xs j p c ys) (hq:Below wr.heap.size wr wq) (h5:Below wq.heap.size wq w5) (hx:BX w5 wq.heap.size sv5 ys5) (hb5:bareL ys5=blkM R f (thingsM l s)) (hs:(sidesM R l)[j]? = some s) (hgb:gb<w2.heap.size) (hwr:w2.heap.size≤wr.heap.size)
  (ho:w6.ownsRow w2.heap.size 183 3 (.slice p6 (ys.length+1) c6) (ys.length+1) (ys.flatMap encBl++[.int .i64 4,.int .i64 0,sv5])) (hg:w5.grownBy w6 (Value.slice p ys.length c).ownBlock)
  (hv:(Value.slice p6 (ys.length+1) c6).ownBlock=(Value.slice p ys.length c).ownBlock∨∃ k,(Value.slice p6 (ys.length+1) c6).ownBlock=some k∧w5.heap.size≤k) :
  FkAt (w6.setCell ⟨gb,2,none⟩ (.slice p6 (ys.length+1) c6)) w2 gb R l f xs (j+1) p6 c6 (ys++[.mk 4 0 sv5 ys5]):=by
 have hsub:=(h.sub.over hq).over h5
 have hlen:(ys++[BlL.mk 4 0 sv5 ys5]).length=ys.length+1:=by simp
 have hxin:BIn (fun b=>wq.heap.size≤b∧b<w5.heap.size∧some b≠(Value.slice p ys.length c).ownBlock) w5 (.mk 4 0 sv5 ys5):=
  BIn.weak (hx.block 4 0) fun b hb=>⟨hb.1,hb.2,fun e=>by
   have:=gown_size h.sub.own e.symm
   have:=hq.size
   omega⟩
 have hown:GOwn encBl 3 183 w6 w2.heap.size (.slice p6 (ys.length+1) c6) (ys++[.mk 4 0 sv5 ys5]):=GOwn.snoc (x:=BlL.mk 4 0 sv5 ys5) ho
 have hnew:=BX.snoc hsub hxin (by have:=hq.size;omega) hown hg hv
 have hbox:=((h.box.over hq).over h5).kept hg (fun e=>by have:=gown_low h.sub.own e.symm;omega)
 refine⟨?_,?_,?_,?_⟩
 ·
  rw [hlen];exact hbox.set 2 _
 ·
  rw [hlen];exact hnew.set hgb
 ·
  rw [bareL_snoc,h.bare,take_one hs,List.map_append,List.map_cons,List.map_nil]
  congr 1
  unfold bareB
  rw [hb5]
 ·
  have hw:w2.grownBy w5 (some gb):=grown_belowS (grown_belowS h.world hq) h5
  refine grown_trans ?_ (grown_setCell _ _ _)
  cases hv2:(Value.slice p ys.length c).ownBlock with
  | none=>rw [hv2] at hg;exact⟨hg.os.trans hw.os,hg.tape.trans hw.tape,hg.output.trans hw.output,Nat.le_trans hw.size hg.size,fun q hq hn=>(hg.block q (Nat.lt_of_lt_of_le hq hw.size) (by intro e;cases e)).trans (hw.block q hq hn)⟩
  | some g2=>rw [hv2] at hg;exact grown_far hw (gown_low h.sub.own hv2) hg
theorem pc_store{w w2 w3:World}{x:BlL}{lo gz:Nat}(h:BIn (fun b=>lo≤b∧b<w2.heap.size) w2 x)(hg:w2.grownBy w3 (some gz))(hz:gz<lo)(hw:w.heap.size≤lo):BIn (fun b=>w.heap.size≤b∧b<w3.heap.size) w3 x:=
 BIn.mono (fun b hb=>⟨Nat.le_trans hw hb.1,Nat.lt_of_lt_of_le hb.2 hg.size⟩) (fun u us hu hr=>grow_keptB hg (fun b hb e=>by cases e;have:=(hu _ hb).1;omega) hr) x h
set_option maxHeartbeats 8000000 in
set_option maxRecDepth 100000 in
theorem bpiece_any(f r n:Nat)(R:List (Nat × Nat))(v:Value)(l:List Nat)(w:World)(h:RelAt w r n R)(hv:GRow encI 1 w v l)(hl:∀ i∈l,i≤1000000)(hn:l.length≤1000000)(h0:0<l.length)(hf:l.length≤f)
  (hOf:∀(t:List Nat) (tv:Value) (W:World),t.length<f→t.length≤1000000→(∀ i∈t,i≤1000000)→RelAt W r n R→GRow encI 1 W tv t→Calls Tryz.prog 53 #[.pointer (some ⟨r,0,none⟩),tv] W (OfRes W (blkM R f t))) :
  Calls Tryz.prog 106 #[.pointer (some ⟨r,0,none⟩),v] w (PcRes w (pieceM R (blkM R f) l)):=by
 by_cases hl1:l.length=1
 ·
  obtain⟨i,rfl⟩:=List.length_eq_one_iff.1 hl1
  exact bpiece_one r R _ v i w hv
 ·
  obtain⟨a,cap,rfl,h1,h2,hc⟩:=irow_at hv
  have hV:=Lib.hid hv
  unfold maxLen at h2
  have HC:=Lib.hid hc
  have HR:=Lib.hid h
  have HL:=Lib.hid hl
  have HOf:=Lib.hid hOf
  have HA:=Lib.hid (arr_new w #[.int .i64 0,.int .i64 0,.slice none 0 0] 183)
  have HB:=Lib.hid (below_new (w:=w) (.cells #[.int .i64 0,.int .i64 0,.slice none 0 0] 183))
  have g1:((l.length:Int) == 1)=false:=by rw [beq_eq_false_iff_ne];omega
  have H1:=Lib.hid hl1
  clear hv h hl hOf hc hl1
  go_enter Tryz.func106,Tryz.ntmps106
  go_upto_region 1 with(fail)
  generalize hw0:w.alloc (.cells #[.int .i64 0,.int .i64 0,.slice none 0 0] 183)=w0 at *
  have hwz:=hw0
  clear hw0
  generalize hgz:w.heap.size=gz at *
  have HGZ:=Lib.hid hgz
  have hgz0:w0.heap.size=gz+1:=by rw [← hwz];simp [hgz]
  clear hwz
  go_wp2_with fail
  refine(bsides_any r n R _ l _ (HR.out.over (by rw [hgz];exact HB.out)) (hV.out.over (by rw [hgz];exact HB.out)) HL.out hn h0).mono ?_
  rintro e w1 ⟨sv,xs,rfl,ho,hrw,hbare,hb1⟩
  rw [hgz0] at ho
  obtain⟨pa,ca,e1,n1,n2,hcx⟩:=ho.row.at encSd_len
  subst e1
  unfold maxLen at n2
  have HX:=Lib.hid ho
  have HCX:=Lib.hid hcx
  have HRW:=Lib.hid hrw
  have HBR:=Lib.hid hbare
  have HB1:=Lib.hid (below_over HB.out (by rw [hgz0];omega) hb1)
  have HA1:=Lib.hid (HA.out.over hb1)
  have hxl:xs.length=(sidesM R l).length:=by have:=congrArg List.length hbare;rwa [List.length_map] at this
  have hz1:gz<w1.heap.size:=HA1.out.lt
  clear ho hrw hbare hb1 hcx
  have y0:=HA1.out.cell (j:=0) rfl
  have y1:=HA1.out.cell (j:=1) rfl
  have y2:=HA1.out.cell (j:=2) rfl
  have sy:=HA1.out.lt
  have k0:=HA1.out.free 0
  have k1:=HA1.out.free 1
  have k2:=HA1.out.free 2
  by_cases hs1:xs.length=1
  ·
   have g2:((xs.length:Int) == 1)=true:=by rw [beq_iff_eq];omega
   have HPk:=Lib.hid (piece_knot (F:=blkM R f) H1.out (hxl▸hs1))
   have HBw1:Hid (Below w.heap.size w w1):=Lib.hid (by rw [HGZ.out];exact HB1.out)
   clear hs1 hxl
   go_wp2_with fail
   refine(bsome_any _ l _ (hV.out.over HBw1.out) hn).mono ?_
   rintro e w2 ⟨v2,rfl,ho2,hb2⟩
   obtain⟨p2,c2,e2,_,_,_⟩:=ho2.row.at encBl_len
   rw [List.length_map] at e2
   subst e2
   have HO2:=Lib.hid ho2
   have HB2:=Lib.hid (below_over HB1.out (by omega) hb2)
   have HA2:=Lib.hid (HA1.out.over hb2)
   have hz2:=hb2.size
   clear ho2 hb2 y0 y1 y2 sy k0 k1 k2
   have y0:=HA2.out.cell (j:=0) rfl
   have y1:=HA2.out.cell (j:=1) rfl
   have y2:=HA2.out.cell (j:=2) rfl
   have sy:=HA2.out.lt
   have k0:=HA2.out.free 0
   have k1:=HA2.out.free 1
   have k2:=HA2.out.free 2
   go_wp2_with fail
   refine bodyPost_ret (v:=.agg #[.int .i64 3,.int .i64 0,.slice p2 l.length c2]) (results_arr rowBlk rfl (((HA2.out.set 0 _).set 1 _).set 2 _) rfl rfl) rfl ?_
   refine⟨3,0,.slice p2 l.length c2,l.map lineL,rfl,?_,?_,?_⟩
   ·
    rw [HPk.out];unfold bareB;rw [lines_bare]
   ·
    have h9:BX w2 w1.heap.size (.slice p2 l.length c2) (l.map lineL):=⟨HO2.out,lines_in _ _ _⟩
    exact pc_store (gz:=gz) (h9.block 3 0) (grown_trans (grown_trans (grown_setCell w2 0 _) (grown_setCell _ 1 _)) (grown_setCell _ 2 _)) hz1 (by rw [HGZ.out];omega)
   ·
    rw [HGZ.out];exact(((HB2.out.setCell (p:=⟨gz,0,none⟩) (Nat.le_refl _) (.int .i64 3)).setCell (p:=⟨gz,1,none⟩) (Nat.le_refl _) (.int .i64 0)).setCell (p:=⟨gz,2,none⟩) (Nat.le_refl _) (.slice p2 l.length c2))
  ·
   have g2:((xs.length:Int) == 1)=false:=by rw [beq_eq_false_iff_ne];omega
   have HPf:=Lib.hid (piece_fork (F:=blkM R f) H1.out (hxl▸hs1))
   have HNs:Hid ((sidesM R l).length≠1):=Lib.hid (hxl▸hs1)
   have HXL:=Lib.hid hxl
   clear hs1 hxl
   go_upto_region 7 with(fail)
   have HBx:=Lib.hid (arrT_new w1 [.int .i64 2,.int .i64 0,.slice none 0 0] 183)
   have HN1:=Lib.hid (below_new (w:=w1) (.cells #[.int .i64 2,.int .i64 0,.slice none 0 0] 183))
   have HA2:=Lib.hid (HA1.out.over HN1.out)
   have HS2:Hid (w1.heap.size+1=(w1.alloc (.cells #[.int .i64 2,.int .i64 0,.slice none 0 0] 183)).heap.size):=Lib.hid (by simp)
   generalize hw2:w1.alloc (.cells #[.int .i64 2,.int .i64 0,.slice none 0 0] 183)=w2 at *
   clear hw2 y0 y1 y2 sy k0 k1 k2
   obtain⟨gb,hgb⟩:∃ gb,gb=w1.heap.size:=⟨_,rfl⟩
   rw [← hgb] at HBx HS2 HN1 hz1 ⊢
   have HGB:=Lib.hid hgb
   clear hgb
   have HF0:Hid (FkAt w2 w2 gb R l f xs 0 none 0 []):=Lib.hid ⟨HBx.out,bx_nil _ _,by rw [List.take_zero];rfl,World.grownBy.refl _ _⟩
   go_wp2_with fail
   go_loopw [8,9,11,31] (fun _ _ _ v31 wr=>FkRel w2 gb R l f xs v31 wr) (fun _ _ _ v31 _=>xs.length - (intOf v31).toNat)
   case atStart=>exact⟨0,none,0,[],Nat.zero_le _,rfl,HF0⟩
   case round =>
    obtain⟨j,p,c,ys,hj,rfl,HF⟩:=hrel
    rename World=>wr
    have HBr:Hid (Below w1.heap.size w1 wr):=Lib.hid (by
     have h9:=HN1.out
     rw [HGB.out] at h9
     exact h9.grown HF.out.world h9.size (fun k hk=>by cases hk;rw [HGB.out];exact Nat.le_refl _))
    have HBz:Hid (Below gz w wr):=Lib.hid (below_over HB1.out (by have:=HGB.out;omega) HBr.out)
    by_cases hlt:j<xs.length
    ·
     obtain⟨x,hx⟩:=get_of_lt hlt
     obtain⟨bx,ox,rfl,sbx,hcx⟩:=HCX.out.resolve_left (by omega)
     have x0':=(hcx j x hx wr HBr.out).2 0 _ rfl
     have x0:wr.cell? ⟨bx,ox+j,none⟩=some x.v:=by simpa using x0'
     have sx:=(hcx j x hx wr HBr.out).1
     have hxm:=List.mem_of_getElem? hx
     have hxr:=(HRW.out x hxm).over HBr.out
     obtain⟨q1,q2,ev,n3,n4,hcs⟩:=irow_at hxr
     unfold maxLen at n4
     have hsm:x.s∈sidesM R l:=by rw [← HBR.out];exact List.mem_map.2 ⟨x,hxm,rfl⟩
     have HSm:=Lib.hid hsm
     have HSl:=Lib.hid (sides_less HNs.out hsm)
     have HX1:=Lib.hid hx
     have HCS:=Lib.hid hcs
     rw [ev] at x0
     clear x0' hcx hx hxm hxr hsm hcs ev
     go_wp2_with fail
     go_loopw [9,11,37] (fun v9 _ v37 wq=>ThRel wr l x.s v9 v37 wq) (fun _ _ v37 _=>x.s.length - (intOf v37).toNat)
     case atStart=>exact⟨0,none,0,Nat.zero_le _,rfl,by rw [List.take_zero,things_nil];rfl,Lib.hid (by rw [List.take_zero,things_nil];exact gown_nil _ _),Below.refl _ _⟩
     case round =>
      obtain⟨q,p9,c9,hq,rfl,rfl,HT,hbq⟩:=hrel
      rename World=>wq
      have HBq:=Lib.hid hbq
      by_cases hlt2:q<x.s.length
      ·
       obtain⟨u,hu⟩:=get_of_lt hlt2
       obtain⟨bs,os,rfl,sbs,hcs2⟩:=HCS.out.resolve_left (by omega)
       obtain⟨su,u0⟩:=hcs2 q u hu wq hbq
       have hul:=sides_lt HSm.out (List.mem_of_getElem? hu)
       obtain⟨y,hy⟩:=get_of_lt hul
       obtain⟨bl,ol,rfl,sbl,hcl⟩:=HC.out.resolve_left (by omega)
       have hbw:Below gz w wq:=by
        exact below_over HBz.out (by have:=HBr.out.size;have:=HGB.out;omega) hbq
       obtain⟨sy2,l0⟩:=hcl u y hy wq hbw
       have HTs:=Lib.hid (things_step hu hy)
       have hN:(thingsM l (x.s.take q)).length+1≤1099511627776:=by have:=HSl.out;unfold thingsM;rw [List.length_map,List.length_take];omega
       have hB3:=hbq.size
       clear hcs2 hu hy hcl hbw
       go_wp2_with (at_builtin;(first|refine wpList_append_newD slIntI rfl _ _ rfl wr.heap.size _ _ (drawn_alloc_drewN _ _ _) 1 _ _ _ HT.out rfl rfl rfl rfl hN (by decide) hB3 ?_|refine wpList_append_newD slIntI rfl _ _ rfl wr.heap.size _ _ (drawn_drew _) 1 _ _ _ HT.out rfl rfl rfl rfl hN (by decide) hB3 ?_|refine wpList_append_newD slIntI rfl _ _ rfl wr.heap.size _ _ (drawn_drewN _ _) 1 _ _ _ HT.out rfl rfl rfl rfl hN (by decide) hB3 ?_|refine wpList_append_newD slIntI rfl _ _ rfl wr.heap.size _ _ (drawn_refl _) 1 _ _ _ HT.out rfl rfl rfl rfl hN (by decide) hB3 ?_);intro v9 w9 ho9 hg9)
       obtain⟨p8,c8,e8,hO8⟩:=iown_more ho9
       subst e8
       go_roundw
       case rel=>exact⟨q+1,p8,c8,hlt2,by go_num,by rw [HTs.out],Lib.hid (by rw [HTs.out];exact hO8),below_grown HBq.out hB3 HT.out hg9⟩
       case measure=>simp [intOf];omega
      ·
       obtain rfl:q=x.s.length:=by omega
       rw [List.take_length] at HT
       rw [List.take_length]
       have HBxq:=Lib.hid (HF.out.box.over hbq)
       have HSq:=Lib.hid (HF.out.sub.over hbq)
       have HBxa:=Lib.hid HBxq.out.arr
       have hbw:Below gz w wq:=by
        exact below_over HBz.out (by have:=HBr.out.size;have:=HGB.out;omega) hbq
       have HOc:Hid (∀ W,Below wq.heap.size wq W→Calls Tryz.prog 53 #[.pointer (some ⟨r,0,none⟩),.slice p9 (thingsM l x.s).length c9] W (OfRes W (blkM R f (thingsM l x.s)))):=Lib.hid fun W hW=>HOf.out _ _ W (by unfold thingsM;rw [List.length_map];have:=HSl.out;omega) (by unfold thingsM;rw [List.length_map];have:=HSl.out;omega) (things_le HL.out HSm.out) ((HR.out.over (by rw [HGZ.out];exact hbw)).over hW) (HT.out.over hW).row
       have hxj:(sidesM R l)[j]? = some x.s:=by rw [← HBR.out,List.getElem?_map,HX1.out];rfl
       have HXj:=Lib.hid hxj
       have hzl:gb<w2.heap.size:=by have:=HS2.out;omega
       have hwl:=HF.out.world.size
       have hN6:ys.length+1≤1099511627776:=by have:=bare_len HF.out.bare;have:=sides_few R l;have:=HXL.out;omega
       have HN6:=Lib.hid hN6
       clear hxj hbw hN6
       have b0:=HBxa.out.cell (j:=0) rfl
       have b1:=HBxa.out.cell (j:=1) rfl
       have b2:=HBxa.out.cell (j:=2) rfl
       have sb:=HBxa.out.lt
       go_upto_region 16 with(fail)
       have hcur:Below wq.heap.size wq wq.drew:=(Below.refl _ _).drew
       refine wp_region_lex (C:=IsOver wq) 7 [] (by kernel_rfl) (by kernel_rfl) (isOver_of hcur) ?_
       simp only [List.take_succ_cons,List.take_zero,List.drop_succ_cons,List.drop_zero]
       repeat(first|(refine lex_skip rfl rfl ?_;simp only [Act.put,List.setIfInBounds_toArray,List.set_cons_succ,List.set_cons_zero])|(refine lex_one rfl ?_;go_big_quiet_step (fail);refine wpQuiet_nil ?_)|(refine lex_loud rfl ?_;go_wp2_with (first|(go_at_call 53;(with_reducible refine(HOc.out _ hcur).mono ?_);rintro e w5 ⟨v5,ys5,rfl,hx5,hr5,hb5⟩;(obtain⟨p5,c5,e5,_,_,_⟩:=hx5.own.row.at encBl_len);subst e5;have HX5:Hid (BX w5 wq.heap.size (.slice p5 ys5.length c5) ys5):=Lib.hid hx5;have HR5:=Lib.hid hr5;replace hcur:=below_over hcur hcur.size hb5;clear hx5 hr5 hb5));refine⟨isOver_of (by first|exact hcur|exact hcur.alloc hcur.size _),?_⟩))
       refine lex_end ?_
       have HB5:=Lib.hid hcur
       have HO5:=Lib.hid ((HSq.out.over hcur).own)
       have hB6:w2.heap.size≤w5.heap.size:=by have:=hcur.size;have:=HBq.out.size;omega
       clear hcur
       go_wp2_with (at_builtin;(first|refine wpList_append_newK slBlk rfl _ _ rfl w2.heap.size #[.int .i64 4,.int .i64 0,.slice p5 ys5.length c5] 183 (drawn_refl _) 1 _ _ _ HO5.out rfl rfl rfl rfl HN6.out (by decide) hB6 ?_|refine wpList_append_newK slBlk rfl _ _ rfl w2.heap.size #[.int .i64 4,.int .i64 0,.slice p5 ys5.length c5] 183 (drawn_drew _) 1 _ _ _ HO5.out rfl rfl rfl rfl HN6.out (by decide) hB6 ?_);intro v6 w6 ho6 hg6 hv6;(obtain⟨p6,c6,e6,_,_,_⟩:=(GOwn.row (GOwn.snoc (x:=BlL.mk 4 0 (.slice p5 ys5.length c5) ys5) ho6)).at encBl_len);(have e7:v6=.slice p6 (ys.length+1) c6:=by rw [e6,List.length_append];rfl);clear e6;subst e7;have HST:=Lib.hid (HF.out.step HBq.out HB5.out HX5.out HR5.out HXj.out hzl hwl ho6 hg6 hv6);have HB6:=Lib.hid ((HBxq.out.over HB5.out).kept hg6 (fun e=>by have:=gown_low HSq.out.own e.symm;omega));have t2:=HB6.out.arr.cell (j:=2) rfl;have t3:=HB6.out.arr.free 2;have st:=HB6.out.arr.lt;clear ho6 hg6 hv6)
       go_roundw
       case rel=>exact⟨j+1,p6,c6,_,hlt,by go_num,HST⟩
       case measure=>simp [intOf];omega
    ·
     obtain rfl:j=xs.length:=by omega
     have HAr:=Lib.hid (HA1.out.over HBr.out)
     have HBA:=Lib.hid HF.out.box.arr
     have hzl:gz<w2.heap.size:=by have:=HS2.out;have:=HGB.out;omega
     have hzw:w.heap.size≤w2.heap.size:=by have:=HGZ.out;omega
     have HPe:Hid (pieceM R (blkM R f) l=.mk 2 0 (bareL ys)):=Lib.hid (by rw [HPf.out,HF.out.bare,HXL.out,List.take_length])
     have y0:=HAr.out.cell (j:=0) rfl
     have y1:=HAr.out.cell (j:=1) rfl
     have y2:=HAr.out.cell (j:=2) rfl
     have sy:=HAr.out.lt
     have b0:=HBA.out.cell (j:=0) rfl
     have b1:=HBA.out.cell (j:=1) rfl
     have b2:=HBA.out.cell (j:=2) rfl
     have sb:=HBA.out.lt
     have k0:=HAr.out.free 0
     have k1:=HAr.out.free 1
     have k2:=HAr.out.free 2
     go_wp2_with fail
     refine bodyPost_ret (v:=.agg #[.int .i64 2,.int .i64 0,.slice p ys.length c]) (results_arr rowBlk rfl (((HAr.out.set 0 _).set 1 _).set 2 _) rfl rfl) rfl ?_
     refine⟨2,0,.slice p ys.length c,ys,rfl,?_,?_,?_⟩
     ·
      rw [HPe.out];unfold bareB;rfl
     ·
      exact pc_store (gz:=gz) (HF.out.sub.block 2 0) (grown_trans (grown_trans (grown_setCell wr 0 _) (grown_setCell _ 1 _)) (grown_setCell _ 2 _)) hzl hzw
     ·
      rw [HGZ.out];exact(((HBz.out.setCell (p:=⟨gz,0,none⟩) (Nat.le_refl _) (.int .i64 2)).setCell (p:=⟨gz,1,none⟩) (Nat.le_refl _) (.int .i64 0)).setCell (p:=⟨gz,2,none⟩) (Nat.le_refl _) (.slice p ys.length c))
end Go.Proofs.YtanfebljiblhbaaGreatDoor
namespace Go.Proofs.YtanfebljiblhbaaGreatDoor
open Go Go.RowKit

def BoRel(w:World)(R:List (Nat × Nat))(f:Nat)(l:List Nat)(v5 v6 v10:Value)(wr:World):Prop:=∃(i at':Nat) (xs:List BlL),i≤l.length∧v10=.int .i64 i∧v6=.int .i64 at'∧Hid (BX wr w.heap.size v5 xs)∧Hid (bareL xs=(piecesTo R l i).1.map (pieceM R (blkM R f)))∧at'=(piecesTo R l i).2∧Below w.heap.size w wr
theorem pieces_zero(R:List (Nat × Nat))(l:List Nat):piecesTo R l 0=([],0):=rfl
theorem pieces_yes{R:List (Nat × Nat)}{l:List Nat}{k:Nat}(h:k+1=l.length∨cutB R l (k+1)=true):piecesTo R l (k+1)=((piecesTo R l k).1++[(l.take (k+1)).drop (piecesTo R l k).2],k+1):=by
 rw [piecesTo];exact if_pos h
theorem pieces_no{R:List (Nat × Nat)}{l:List Nat}{k:Nat}(h:¬ (k+1=l.length∨cutB R l (k+1)=true)):piecesTo R l (k+1)=piecesTo R l k:=by
 rw [piecesTo];exact if_neg h
theorem pieces_few(R:List (Nat × Nat))(l:List Nat):∀ k,(piecesTo R l k).1.length≤k
 | 0=>Nat.le_refl _
 | k+1=>by
  have:=pieces_few R l k
  by_cases h:k+1=l.length∨cutB R l (k+1)=true
  ·
   rw [pieces_yes h];simp;omega
  ·
   rw [pieces_no h];omega
theorem of_snoc{w w3 w6 wr:World}{v v6:Value}{xs ys3:List BlL}{k3 n3:Int}{s3:Value}{lo:Nat}(h:BX w3 w.heap.size v xs)(hx:BIn (fun b=>lo≤b∧b<w3.heap.size) w3 (.mk k3 n3 s3 ys3))(hlo:wr.heap.size≤lo)(hw:w.heap.size≤wr.heap.size)(hv:∀ b,v.ownBlock=some b→b<wr.heap.size)
  (ho:w6.ownsRow w.heap.size 183 3 v6 (xs.length+1) (xs.flatMap encBl++[.int .i64 k3,.int .i64 n3,s3])) (hg:w3.grownBy w6 v.ownBlock) (hk:v6.ownBlock=v.ownBlock∨∃ k,v6.ownBlock=some k∧w3.heap.size≤k):BX w6 w.heap.size v6 (xs++[.mk k3 n3 s3 ys3]):=
 BX.snoc h (BIn.weak hx fun b hb=>⟨hb.1,hb.2,fun e=>by have:=hv b e.symm;omega⟩) (by omega) (GOwn.snoc (x:=BlL.mk k3 n3 s3 ys3) ho) hg hk
theorem row_part{w:World}{b off n cap at' k:Nat}{l:List Nat}(h:GRow encI 1 w (.slice (some ⟨b,off,none⟩) n cap) l)(h1:at'<k)(h2:k≤l.length):GRow encI 1 w (.slice (some ⟨b,off+at',none⟩) (k - at') (cap - at')) ((l.take k).drop at'):=by
 obtain⟨a,c2,e,z1,z2,hc⟩:=irow_at h
 obtain⟨rfl,rfl,rfl⟩:=Value.slice.inj e
 have h9:=slice_row (l:=at') (h:=k) h (by omega) h2
 unfold sliced at h9
 rw [if_neg (by omega)] at h9
 unfold GRow
 have e1:((l.take k).drop at').length=k - at':=by rw [List.length_drop,List.length_take];omega
 have e2:((l.take k).drop at').flatMap encI=((l.flatMap encI).drop (at'*1)).take ((k - at')*1):=by
  rw [encI_map,encI_map,Nat.mul_one,Nat.mul_one,← List.map_drop,← List.map_take,← List.map_drop,← List.map_take]
  congr 2
  rw [List.drop_take]
 rw [e1,e2]
 simpa [Addr.add_lit] using h9
attribute [local irreducible] piecesTo pieceM blkM cutB
set_option maxHeartbeats 8000000 in
set_option maxRecDepth 100000 in
theorem bof_any(r n:Nat)(R:List (Nat × Nat)):∀(f:Nat) (l:List Nat) (v:Value) (w:World),l.length<f→l.length≤1000000→(∀ i∈l,i≤1000000)→RelAt w r n R→GRow encI 1 w v l →
  Calls Tryz.prog 53 #[.pointer (some ⟨r,0,none⟩),v] w (OfRes w (blkM R f l))
 | 0,l,v,w,hf,_,_,_,_=>absurd hf (Nat.not_lt_zero _)
 | f+1,l,v,w,hf,hn,hl,h,hv=>by
  have hih:=bof_any r n R f
  obtain⟨a,cap,rfl,h1,h2,hc⟩:=irow_at hv
  have HV:=Lib.hid hv
  unfold maxLen at h2
  have HR:=Lib.hid h
  have HL:=Lib.hid hl
  have HIH:Hid (∀(t:List Nat) (tv:Value) (W:World),t.length<f→t.length≤1000000→(∀ i∈t,i≤1000000)→RelAt W r n R→GRow encI 1 W tv t→Calls Tryz.prog 53 #[.pointer (some ⟨r,0,none⟩),tv] W (OfRes W (blkM R f t))):=Lib.hid fun t tv W ht h0 h1 h2 h3=>hih t tv W ht h0 h1 h2 h3
  have HBK:Hid (blkM R (f+1) l=(piecesTo R l l.length).1.map (pieceM R (blkM R f))):=Lib.hid (by rw [blkM];rfl)
  clear hv h hl hih
  go_enter Tryz.func53,Tryz.ntmps53
  go_wp2_with fail
  go_loopw [5,6,10] (fun v5 v6 v10 wr=>BoRel w R f l v5 v6 v10 wr) (fun _ _ v10 _=>l.length - (intOf v10).toNat)
  case atStart=>exact⟨0,0,[],by omega,rfl,rfl,Lib.hid (bx_nil _ _),Lib.hid (by rw [pieces_zero];rfl),by rw [pieces_zero],Below.refl _ _⟩
  case round =>
   obtain⟨i,at',xs,hi,rfl,rfl,HX,HBa,hat,hbl⟩:=hrel
   rename World=>wr
   have HBr:=Lib.hid hbl
   have hai:at'≤i:=by rw [hat];exact pieces_at R l i
   have HAt:=Lib.hid hat
   have HXl:Hid (xs.length≤i):=Lib.hid (by
    have h9:=congrArg List.length HBa.out
    rw [bareL_map,List.length_map,List.length_map] at h9
    rw [h9];exact pieces_few R l i)
   clear hat hbl
   by_cases hlt:i<l.length
   ·
    obtain⟨b,off,rfl,sb,hcb⟩:=hc.resolve_left (by omega)
    clear hcb
    have HPc:Hid (∀(tv:Value) (W:World),Below w.heap.size w W→GRow encI 1 W tv ((l.take (i+1)).drop at')→Calls Tryz.prog 106 #[.pointer (some ⟨r,0,none⟩),tv] W (PcRes W (pieceM R (blkM R f) ((l.take (i+1)).drop at')))):=Lib.hid fun tv W hW hr=>bpiece_any f r n R tv _ W (HR.out.over hW) hr (fun z hz=>HL.out z (List.mem_of_mem_take (List.mem_of_mem_drop hz))) (by rw [List.length_drop,List.length_take];omega) (by rw [List.length_drop,List.length_take];omega) (by rw [List.length_drop,List.length_take];omega) HIH.out
    by_cases hlast:i+1=l.length
    ·
     have HPt:=Lib.hid (pieces_yes (R:=R) (.inl hlast))
     have g1:((i:Int)+1 == (l.length:Int))=true:=by rw [beq_iff_eq];omega
     have HSlr:Hid (GRow encI 1 wr (.slice (some ⟨b,off+at',none⟩) (i+1 - at') (cap - at')) ((l.take (i+1)).drop at')):=Lib.hid (row_part (HV.out.over HBr.out) (by omega) (by omega))
     rw [← HAt.out] at HPt
     clear hlast
     go_wp2_with fail
     with_reducible refine(HPc.out _ _ HBr.out HSlr.out).mono ?_
     rintro e w3 ⟨k3,n3,s3,ys3,rfl,hb3,hi3,hbw3⟩
     have hs3:=(bin_mk.1 hi3).2.1
     have HB3:=Lib.hid hb3
     have HI3:=Lib.hid hi3
     have HX3:=Lib.hid (HX.out.over hbw3)
     have HBw3:=Lib.hid (below_over HBr.out HBr.out.size hbw3)
     have hN:xs.length+1≤1099511627776:=by have:=HXl.out;omega
     have hB3:=HBw3.out.size
     have hBr3:=hbw3.size
     have HO3:=Lib.hid HX3.out.own
     clear hb3 hi3 hbw3
     go_wp2_with (at_builtin;(first|refine wpList_append_newK slBlk rfl _ _ rfl w.heap.size #[.int .i64 k3,.int .i64 n3,s3] 183 (drawn_refl _) 1 _ _ _ HO3.out rfl rfl rfl (by simp [hs3];exact⟨rfl,rfl⟩) hN (by decide) hB3 ?_|refine wpList_append_newK slBlk rfl _ _ rfl w.heap.size #[.int .i64 k3,.int .i64 n3,s3] 183 (drawn_drew _) 1 _ _ _ HO3.out rfl rfl rfl (by simp [hs3];exact⟨rfl,rfl⟩) hN (by decide) hB3 ?_);intro v6 w6 ho6 hg6 hv6)
     go_roundw
     case rel=>exact⟨i+1,i+1,xs++[.mk k3 n3 s3 ys3],hlt,by go_num,by go_num,Lib.hid (of_snoc HX3.out HI3.out (Nat.le_refl _) HBr.out.size (fun b hb=>gown_size HX.out.own hb) ho6 hg6 hv6),Lib.hid (by rw [bareL_snoc,HBa.out,HB3.out,HPt.out,List.map_append];rfl),by rw [HPt.out],below_grown HBw3.out hB3 HO3.out hg6⟩
     case measure=>simp [intOf];omega
    ·
     have g1:((i:Int)+1 == (l.length:Int))=false:=by rw [beq_eq_false_iff_ne];omega
     cases hcu:cutB R l (i+1) with
     | true =>
      have HPt:=Lib.hid (pieces_yes (R:=R) (.inr hcu))
      have HSlr:Hid (GRow encI 1 wr (.slice (some ⟨b,off+at',none⟩) (i+1 - at') (cap - at')) ((l.take (i+1)).drop at')):=Lib.hid (row_part (HV.out.over HBr.out) (by omega) (by omega))
      have HCu:=Lib.hid hcu
      rw [← HAt.out] at HPt
      clear hcu
      go_wp2_with fail
      refine(bcut_any r n R _ l (i+1) _ (HR.out.over HBr.out) (HV.out.over HBr.out) HL.out (by omega)).mono ?_
      rw [HCu.out]
      rintro e w2 ⟨rfl,hw⟩
      obtain rfl:=hw.symm
      go_wp2_with fail
      with_reducible refine(HPc.out _ _ HBr.out HSlr.out).mono ?_
      rintro e w3 ⟨k3,n3,s3,ys3,rfl,hb3,hi3,hbw3⟩
      have hs3:=(bin_mk.1 hi3).2.1
      have HB3:=Lib.hid hb3
      have HI3:=Lib.hid hi3
      have HX3:=Lib.hid (HX.out.over hbw3)
      have HBw3:=Lib.hid (below_over HBr.out HBr.out.size hbw3)
      have hN:xs.length+1≤1099511627776:=by have:=HXl.out;omega
      have hB3:=HBw3.out.size
      have hBr3:=hbw3.size
      have HO3:=Lib.hid HX3.out.own
      clear hb3 hi3 hbw3
      go_wp2_with (at_builtin;(first|refine wpList_append_newK slBlk rfl _ _ rfl w.heap.size #[.int .i64 k3,.int .i64 n3,s3] 183 (drawn_refl _) 1 _ _ _ HO3.out rfl rfl rfl (by simp [hs3];exact⟨rfl,rfl⟩) hN (by decide) hB3 ?_|refine wpList_append_newK slBlk rfl _ _ rfl w.heap.size #[.int .i64 k3,.int .i64 n3,s3] 183 (drawn_drew _) 1 _ _ _ HO3.out rfl rfl rfl (by simp [hs3];exact⟨rfl,rfl⟩) hN (by decide) hB3 ?_);intro v6 w6 ho6 hg6 hv6)
      go_roundw
      case rel=>exact⟨i+1,i+1,xs++[.mk k3 n3 s3 ys3],hlt,by go_num,by go_num,Lib.hid (of_snoc HX3.out HI3.out (Nat.le_refl _) HBr.out.size (fun b hb=>gown_size HX.out.own hb) ho6 hg6 hv6),Lib.hid (by rw [bareL_snoc,HBa.out,HB3.out,HPt.out,List.map_append];rfl),by rw [HPt.out],below_grown HBw3.out hB3 HO3.out hg6⟩
      case measure=>simp [intOf];omega
     | false =>
      have HPt:=Lib.hid (pieces_no (R:=R) (k:=i) (fun q=>q.elim hlast (fun q=>by rw [hcu] at q;cases q)))
      have HCu:=Lib.hid hcu
      clear hcu
      go_wp2_with fail
      refine(bcut_any r n R _ l (i+1) _ (HR.out.over HBr.out) (HV.out.over HBr.out) HL.out (by omega)).mono ?_
      rw [HCu.out]
      rintro e w2 ⟨rfl,hw⟩
      obtain rfl:=hw.symm
      go_wp2_with fail
      go_roundw
      case rel=>exact⟨i+1,at',xs,hlt,by go_num,rfl,HX,Lib.hid (by rw [HPt.out];exact HBa.out),by rw [HPt.out];exact HAt.out,HBr.out⟩
      case measure=>simp [intOf];omega
   ·
    obtain rfl:i=l.length:=by omega
    go_wp2_with fail
    go_ret
    exact⟨_,xs,rfl,HX.out,by rw [HBa.out,HBK.out],HBr.out⟩
end Go.Proofs.YtanfebljiblhbaaGreatDoor
namespace Go.Proofs.YtanfebljiblhbaaGreatDoor
open Go Go.RowKit

mutual
/-- how many blocks are not in order -/
def oddB:BlkM→Nat
 | .mk k _ s=>(if k=2∨k=3 then 1 else 0)+(if k=1 then 0 else oddL s)
def oddL:List BlkM→Nat
 | []=>0
 | b :: l=>oddB b+oddL l
end
theorem oddL_nil:oddL []=0:=by rw [oddL]
theorem oddL_cons(b:BlkM)(l:List BlkM):oddL (b :: l)=oddB b+oddL l:=by rw [oddL]
theorem oddB_mk(k n:Int)(s:List BlkM):oddB (.mk k n s)=(if k=2∨k=3 then 1 else 0)+(if k=1 then 0 else oddL s):=by rw [oddB]
theorem odd_1(n:Int)(s:List BlkM):oddB (.mk 1 n s)=0:=by rw [oddB_mk];simp
theorem odd_23{k n:Int}{s:List BlkM}(h:k=2∨k=3):oddB (.mk k n s)=1+oddL s:=by
 rw [oddB_mk,if_pos h,if_neg (by omega)]
theorem odd_0{k n:Int}{s:List BlkM}(h1:k≠1)(h2:¬ (k=2∨k=3)):oddB (.mk k n s)=oddL s:=by
 rw [oddB_mk,if_neg h2,if_neg h1,Nat.zero_add]
theorem bins_mem{A:Nat→Prop}{w:World}:∀ {l:List BlL} {x:BlL},BIns A w l→x∈l→BIn A w x
 | [],x,_,hx=>absurd hx (List.not_mem_nil)
 | b :: l,x,h,hx=>by
  unfold BIns at h
  rcases List.mem_cons.1 hx with rfl|hx
  ·
   exact h.1
  ·
   exact bins_mem h.2 hx
theorem size_sub{xs:List BlL}{k n:Int}{sv:Value}{s:List BlL}(h:BlL.mk k n sv s∈xs):SizeOf.sizeOf s<SizeOf.sizeOf xs:=by
 have h1:=List.sizeOf_lt_of_mem h
 have h2:SizeOf.sizeOf s<SizeOf.sizeOf (BlL.mk k n sv s):=by simp;omega
 omega
theorem bareL_nil:bareL []=[]:=by rw [bareL]
attribute [local irreducible] oddL oddB bareL bareB
end Go.Proofs.YtanfebljiblhbaaGreatDoor
namespace Go.Proofs.YtanfebljiblhbaaGreatDoor
open Go Go.RowKit

attribute [local irreducible] keptV1 aliveX
end Go.Proofs.YtanfebljiblhbaaGreatDoor
namespace Go.Proofs.YtanfebljiblhbaaGreatDoor
open Go Go.RowKit

section
variable {P : Program} {ty : TypeId} {size : Nat} {w : World} {ops : Array Oper} {rest : List Oper} {o : Oper} {a : Act} {Q : Exit → Act → World → Prop}
/-- a struct stored at a place of a row of the call's own -/
theorem wpList_store_own(T:RowT P ty size)(hgd:o.guard=none)(x y:Operand)(ho:o.op=.store ty x y){B:Nat}{e:TypeId}{sz g n cap:Nat}{xs:List Value}(hA:OwnAt w B e sz g n cap xs)(k:Nat)(new:List Value)
  (hx:a.eval x=.pointer (some ⟨g,k,none⟩)) (hy:a.eval y=.agg new.toArray) (hn:new.length=size) (hk:k+new.length≤n*sz) (h1:∀ u∈new,u.oneCell'=true)
  (h:∀ w',OwnAt w' B e sz g n cap (xs.take k++new++xs.drop (k+new.length))→w.grownBy w' (some g)→w'.heap.size=w.heap.size→wpList P ops Q rest (a.put o.dst undef) w'):wpList P ops Q (o :: rest) a w:=by
 refine wpList_plain hgd fun K hK => ?_
 obtain⟨d,i,_,_,h3,h4⟩:=T.out
 obtain⟨w',hs,r1,r2,r3⟩:=hA.put (P:=P) h1 hk
 have hc:(Value.agg new.toArray).cells=new.toArray:=rfl
 have hr:(storeVar ty ⟨g,k,none⟩ (.agg new.toArray)).run P w=.ok () w':=by simp [storeVar,sizeOf,typeInfo,h3,h4,hc,hn,hs]
 unfold Oper.wp execOp
 simp only [ho,hx,hy,Instr.storeAt,Instr.sureAddr,Sem.run_bind,Sem.run_pure,Result.andThen_ok,hr]
 exact hK _ _ (h w' r1 r2 r3)
end
theorem oneZ_Vert:∀ u∈((.agg #[.int .u8 0,.int .u16 0,.int .u8 0,.int .u8 0,.int .u8 0,.int .u16 0,.int .u8 0,.string ⟨#[]⟩,.bool false]:Value).cells).toList,u.oneCell'=true:=List.all_eq_true.1 rfl
theorem zero_Vert:((Tryz.prog.info? 86).bind (·.zero))=some (.agg #[.int .u8 0,.int .u16 0,.int .u8 0,.int .u8 0,.int .u8 0,.int .u16 0,.int .u8 0,.string ⟨#[]⟩,.bool false]):=by kernel_rfl
set_option maxHeartbeats 4000000 in
set_option maxRecDepth 100000 in
theorem deadFn_any(x:VertM)(w:World):Calls Tryz.prog 116 #[vertV x] w fun e w'=>e=.returned (.bool x.dead)∧Below w.heap.size w w':=by
 have HX:=Lib.hid (arr_new w #[.int .u8 x.id.pid.author.toNat,.int .u16 x.id.pid.seq.toNat,.int .u8 x.id.n.toNat,.int .u8 x.kind.toNat,.int .u8 x.file.pid.author.toNat,.int .u16 x.file.pid.seq.toNat,.int .u8 x.file.n.toNat,.string x.text,.bool x.dead] 86)
 have HB:=Lib.hid (below_new (w:=w) (.cells #[.int .u8 x.id.pid.author.toNat,.int .u16 x.id.pid.seq.toNat,.int .u8 x.id.n.toNat,.int .u8 x.kind.toNat,.int .u8 x.file.pid.author.toNat,.int .u16 x.file.pid.seq.toNat,.int .u8 x.file.n.toNat,.string x.text,.bool x.dead] 86))
 unfold vertV
 go_enter Tryz.func116,Tryz.ntmps116
 go_upto_region 1 with(fail)
 generalize hw0:w.alloc (.cells #[.int .u8 x.id.pid.author.toNat,.int .u16 x.id.pid.seq.toNat,.int .u8 x.id.n.toNat,.int .u8 x.kind.toNat,.int .u8 x.file.pid.author.toNat,.int .u16 x.file.pid.seq.toNat,.int .u8 x.file.n.toNat,.string x.text,.bool x.dead] 86)=w0 at *
 clear hw0
 have c0:=HX.out.cell (j:=0) rfl
 have c1:=HX.out.cell (j:=1) rfl
 have c2:=HX.out.cell (j:=2) rfl
 have c3:=HX.out.cell (j:=3) rfl
 have c4:=HX.out.cell (j:=4) rfl
 have c5:=HX.out.cell (j:=5) rfl
 have c6:=HX.out.cell (j:=6) rfl
 have c7:=HX.out.cell (j:=7) rfl
 have c8:=HX.out.cell (j:=8) rfl
 have sc:=HX.out.lt
 go_wp2_with fail
 go_ret
 exact⟨rfl,HB.out⟩
def deadQ(x:VertM):Bool:=x.dead
def IdRes(w:World)(xs:List VertM)(e:Ending)(w':World):Prop:=e=.returned (.int .i64 (idxB deadQ xs))∧Below w.heap.size w w'
attribute [local irreducible] idxB
set_option maxHeartbeats 4000000 in
set_option maxRecDepth 100000 in
theorem idxDead_any(v:Value)(xs:List VertM)(w:World)(hv:GRow encVert 9 w v xs)(hl:xs.length≤1000000) :
  Calls Tryz.prog 179 #[v,.func (.func 116) #[] #[]] w (IdRes w xs):=by
 obtain⟨a,cap,rfl,h1,h2,hc⟩:=hv.at encVert_len
 unfold maxLen at h2
 have HC:=Lib.hid hc
 clear hv hc
 go_enter Tryz.func179,Tryz.ntmps179
 go_wp2_with fail
 go_loopw [8] (fun v8 wr=>∃ k:Nat,k≤xs.length∧v8=.int .i64 k∧Hid ((xs.take k).any deadQ=false)∧Below w.heap.size w wr) (fun v8 _=>xs.length - (intOf v8).toNat)
 case atStart=>exact⟨0,by omega,rfl,(by show _=_;simp),Below.refl _ _⟩
 case round =>
  obtain⟨k,hk,rfl,HK,hbl⟩:=hrel
  rename World=>wr
  by_cases hlt:k<xs.length
  ·
   obtain⟨b,off,rfl,sb,hcb⟩:=HC.out.resolve_left (by omega)
   obtain⟨u,hu⟩:=get_of_lt hlt
   have HU:=Lib.hid (hcb k u hu wr hbl)
   have u0:wr.cell? ⟨b,off+k*9,none⟩=some (.int .u8 u.id.pid.author.toNat):=(HU.out).2 0 _ rfl
   have u1:wr.cell? ⟨b,off+k*9+1,none⟩=some (.int .u16 u.id.pid.seq.toNat):=(HU.out).2 1 _ rfl
   have u2:wr.cell? ⟨b,off+k*9+2,none⟩=some (.int .u8 u.id.n.toNat):=(HU.out).2 2 _ rfl
   have u3:wr.cell? ⟨b,off+k*9+3,none⟩=some (.int .u8 u.kind.toNat):=(HU.out).2 3 _ rfl
   have u4:wr.cell? ⟨b,off+k*9+4,none⟩=some (.int .u8 u.file.pid.author.toNat):=(HU.out).2 4 _ rfl
   have u5:wr.cell? ⟨b,off+k*9+5,none⟩=some (.int .u16 u.file.pid.seq.toNat):=(HU.out).2 5 _ rfl
   have u6:wr.cell? ⟨b,off+k*9+6,none⟩=some (.int .u8 u.file.n.toNat):=(HU.out).2 6 _ rfl
   have u7:wr.cell? ⟨b,off+k*9+7,none⟩=some (.string u.text):=(HU.out).2 7 _ rfl
   have u8:wr.cell? ⟨b,off+k*9+8,none⟩=some (.bool u.dead):=(HU.out).2 8 _ rfl
   have su:=HU.out.1
   have HX:=Lib.hid hu
   clear hcb hu
   go_wp2_with fail
   refine(deadFn_any u _).mono ?_
   rintro e w1 ⟨rfl,hb1⟩
   have HB1:=Lib.hid (below_over hbl hbl.size hb1)
   clear hb1 u0 u1 u2 u3 u4 u5 u6 u7 u8 su
   cases hf:u.dead with
   | true =>
    have HI:=Lib.hid (idx_hit HK.out HX.out (f:=deadQ) hf)
    clear hf
    go_wp2_with fail
    go_ret
    exact⟨ret_int HI.out.symm,HB1.out⟩
   | false =>
    have HI:=Lib.hid (any_step HK.out HX.out (f:=deadQ) hf)
    clear hf
    go_wp2_with fail
    go_roundw
    case rel=>exact⟨k+1,hlt,by go_num,HI,HB1.out⟩
    case measure=>simp [intOf];omega
  ·
   obtain rfl:k=xs.length:=by omega
   have HI:=Lib.hid (idx_miss HK.out)
   go_wp2_with fail
   go_ret
   exact⟨ret_int HI.out.symm,hbl⟩

/-! ### taken out in place -/
def aliveQ(x:VertM):Bool := !x.dead
def keptV(xs:List VertM)(j:Nat):List VertM:=(xs.take j).filter aliveQ
theorem kept_yes{xs:List VertM}{j:Nat}{u:VertM}(h:xs[j]? = some u)(hd:u.dead=false):keptV xs (j+1)=keptV xs j++[u]:=by unfold keptV;rw [take_succ' h,List.filter_append];simp [aliveQ,hd]
theorem kept_no{xs:List VertM}{j:Nat}{u:VertM}(h:xs[j]? = some u)(hd:u.dead=true):keptV xs (j+1)=keptV xs j:=by unfold keptV;rw [take_succ' h,List.filter_append];simp [aliveQ,hd]
theorem kept_all(xs:List VertM):keptV xs xs.length=xs.filter aliveQ:=by unfold keptV;rw [List.take_length]
theorem idx_cases(xs:List VertM):(idxB deadQ xs = -1∧xs.filter aliveQ=xs)∨∃ k u,k<xs.length∧idxB deadQ xs=(k:Int)∧xs[k]? = some u∧u.dead=true∧keptV xs k=xs.take k:=by
 unfold idxB
 cases h:xs.findIdx? deadQ with
 | none =>
  rw [List.findIdx?_eq_none_iff] at h
  exact .inl ⟨rfl,List.filter_eq_self.2 fun x hx=>by have:=h x hx;unfold deadQ at this;simp [aliveQ,this]⟩
 | some k =>
  rw [List.findIdx?_eq_some_iff_getElem] at h
  obtain⟨hk,h1,h2⟩:=h
  refine .inr ⟨k,xs[k],hk,rfl,List.getElem?_eq_getElem hk,h1,?_⟩
  unfold keptV
  refine List.filter_eq_self.2 fun x hx => ?_
  obtain⟨j,hj,rfl⟩:=List.mem_iff_getElem.1 hx
  rw [List.length_take] at hj
  rw [List.getElem_take]
  have:=h2 j (by omega)
  unfold deadQ at this
  simp [aliveQ];simpa using this
def DelRes(w:World)(B:Nat)(v:Value)(xs:List VertM)(e:Ending)(w':World):Prop:=∃ v',e=.returned v'∧GOwn encVert 9 86 w' B v' (xs.filter aliveQ)∧w.grownBy w' v.ownBlock
def DelRel(w:World)(B g cap:Nat)(xs:List VertM)(v5 v6:Value)(wr:World):Prop:=
 ∃(m j:Nat) (zs:List VertM),j≤xs.length∧m<j∧v5=.int .i64 m∧v6=.int .i64 j∧zs.length=xs.length∧Hid (zs.take m=keptV xs j)∧Hid (∀ i,j≤i→zs[i]? = xs[i]?) ∧
  Hid (OwnAt wr B 86 9 g xs.length cap (zs.flatMap encVert))∧Hid (w.grownBy wr (some g))
attribute [local irreducible] keptV aliveQ
set_option maxHeartbeats 10000000 in
set_option maxRecDepth 100000 in
theorem delete_any{w:World}{B:Nat}{v:Value}{xs:List VertM}(h:GOwn encVert 9 86 w B v xs)(hn:xs.length≤1000000) :
  Calls Tryz.prog 115 #[v,.func (.func 116) #[] #[]] w (DelRes w B v xs):=by
 have HO:=Lib.hid h
 have hcon:=idxDead_any v xs w h.row hn
 unfold IdRes at hcon
 rcases idx_cases xs with⟨hi,hf⟩|⟨k0,u0,hk0,hi,hu0,hd0,hkp⟩
 ·
  rw [hi] at hcon
  have HF:=Lib.hid hf
  clear h hi hf
  go_enter Tryz.func115,Tryz.ntmps115
  go_wp2_with fail
  refine hcon.mono ?_
  rintro e w1 ⟨rfl,hb1⟩
  have HB1:=Lib.hid hb1
  clear hcon hb1
  go_wp2_with fail
  go_ret
  exact⟨_,rfl,(by rw [HF.out];exact HO.out.over HB1.out),grown_of_below HB1.out⟩
 ·
  rw [hi] at hcon
  obtain⟨g,cap,rfl,hA⟩:=own_at (show World.ownsRow _ _ _ _ _ _ _ from h) (by omega)
  have HA:=Lib.hid hA
  have hnc:=hA.nc
  have hcm:=hA.cm
  unfold maxLen at hcm
  have hg:=hA.lt
  have HK0:Hid (xs.take k0=keptV xs (k0+1)):=by show _=_;rw [kept_no hu0 hd0,hkp]
  clear h hi hA hu0 hd0 hkp
  go_enter Tryz.func115,Tryz.ntmps115
  go_wp2_with fail
  refine hcon.mono ?_
  rintro e w1 ⟨rfl,hb1⟩
  have HA1:=Lib.hid (HA.out.over hb1)
  have HG1:=Lib.hid (grown_of_below hb1 (row:=some g))
  have d0:((k0:Int) == -1)=false:=by simp <;> omega
  clear hcon hb1
  go_wp2_with fail
  go_loopw [5,6] (fun v5 v6 wr=>DelRel w B g cap xs v5 v6 wr) (fun _ v6 _=>xs.length - (intOf v6).toNat)
  case atStart=>exact⟨k0,k0+1,xs,hk0,Nat.lt_succ_self _,rfl,by go_num,rfl,HK0,Lib.hid (fun _ _=>rfl),HA1,HG1⟩
  case round =>
   obtain⟨m,j,zs,hj,hm,rfl,rfl,hz,HT,HJ,HI,HG⟩:=hrel
   rename World=>wr
   have sI:=HI.out.lt
   by_cases hlt:j<xs.length
   ·
    obtain⟨u,hu⟩:=get_of_lt hlt
    have hu2:zs[j]? = some u:=(HJ.out j (Nat.le_refl _)).trans hu
    have HU:=Lib.hid hu
    have u0:wr.cell? ⟨g,j*9,none⟩=some (.int .u8 u.id.pid.author.toNat):=HI.out.cell ((flat_get encVert_len _ j 0 u hu2 (by decide)).trans rfl)
    have u1:wr.cell? ⟨g,j*9+1,none⟩=some (.int .u16 u.id.pid.seq.toNat):=HI.out.cell ((flat_get encVert_len _ j 1 u hu2 (by decide)).trans rfl)
    have u2:wr.cell? ⟨g,j*9+2,none⟩=some (.int .u8 u.id.n.toNat):=HI.out.cell ((flat_get encVert_len _ j 2 u hu2 (by decide)).trans rfl)
    have u3:wr.cell? ⟨g,j*9+3,none⟩=some (.int .u8 u.kind.toNat):=HI.out.cell ((flat_get encVert_len _ j 3 u hu2 (by decide)).trans rfl)
    have u4:wr.cell? ⟨g,j*9+4,none⟩=some (.int .u8 u.file.pid.author.toNat):=HI.out.cell ((flat_get encVert_len _ j 4 u hu2 (by decide)).trans rfl)
    have u5:wr.cell? ⟨g,j*9+5,none⟩=some (.int .u16 u.file.pid.seq.toNat):=HI.out.cell ((flat_get encVert_len _ j 5 u hu2 (by decide)).trans rfl)
    have u6:wr.cell? ⟨g,j*9+6,none⟩=some (.int .u8 u.file.n.toNat):=HI.out.cell ((flat_get encVert_len _ j 6 u hu2 (by decide)).trans rfl)
    have u7:wr.cell? ⟨g,j*9+7,none⟩=some (.string u.text):=HI.out.cell ((flat_get encVert_len _ j 7 u hu2 (by decide)).trans rfl)
    have u8:wr.cell? ⟨g,j*9+8,none⟩=some (.bool u.dead):=HI.out.cell ((flat_get encVert_len _ j 8 u hu2 (by decide)).trans rfl)
    clear hu hu2
    go_upto_region 8 with(fail)
    have HA7:=Lib.hid (arr_new wr #[.int .u8 u.id.pid.author.toNat,.int .u16 u.id.pid.seq.toNat,.int .u8 u.id.n.toNat,.int .u8 u.kind.toNat,.int .u8 u.file.pid.author.toNat,.int .u16 u.file.pid.seq.toNat,.int .u8 u.file.n.toNat,.string u.text,.bool u.dead] 86)
    have HB7:=Lib.hid (below_new (w:=wr) (.cells #[.int .u8 u.id.pid.author.toNat,.int .u16 u.id.pid.seq.toNat,.int .u8 u.id.n.toNat,.int .u8 u.kind.toNat,.int .u8 u.file.pid.author.toNat,.int .u16 u.file.pid.seq.toNat,.int .u8 u.file.n.toNat,.string u.text,.bool u.dead] 86))
    generalize hw7:wr.alloc (.cells #[.int .u8 u.id.pid.author.toNat,.int .u16 u.id.pid.seq.toNat,.int .u8 u.id.n.toNat,.int .u8 u.kind.toNat,.int .u8 u.file.pid.author.toNat,.int .u16 u.file.pid.seq.toNat,.int .u8 u.file.n.toNat,.string u.text,.bool u.dead] 86)=w7 at *
    clear hw7 u0 u1 u2 u3 u4 u5 u6 u7 u8
    have y0:=HA7.out.cell (j:=0) rfl
    have y1:=HA7.out.cell (j:=1) rfl
    have y2:=HA7.out.cell (j:=2) rfl
    have y3:=HA7.out.cell (j:=3) rfl
    have y4:=HA7.out.cell (j:=4) rfl
    have y5:=HA7.out.cell (j:=5) rfl
    have y6:=HA7.out.cell (j:=6) rfl
    have y7:=HA7.out.cell (j:=7) rfl
    have y8:=HA7.out.cell (j:=8) rfl
    have sy:=HA7.out.lt
    go_wp2_with fail
    refine(deadFn_any u _).mono ?_
    rintro e w8 ⟨rfl,hb8⟩
    have HB8:=Lib.hid (below_over HB7.out HB7.out.size hb8)
    have HA8:=Lib.hid (HA7.out.over hb8)
    have HI8:=Lib.hid (HI.out.over HB8.out)
    have HG8:=Lib.hid (grown_trans HG.out (grown_of_below HB8.out (row:=some g)))
    clear hb8 y0 y1 y2 y3 y4 y5 y6 y7 y8 sy
    have z0:=HA8.out.cell (j:=0) rfl
    have z1:=HA8.out.cell (j:=1) rfl
    have z2:=HA8.out.cell (j:=2) rfl
    have z3:=HA8.out.cell (j:=3) rfl
    have z4:=HA8.out.cell (j:=4) rfl
    have z5:=HA8.out.cell (j:=5) rfl
    have z6:=HA8.out.cell (j:=6) rfl
    have z7:=HA8.out.cell (j:=7) rfl
    have z8:=HA8.out.cell (j:=8) rfl
    have sz:=HA8.out.lt
    cases hf:u.dead with
    | true =>
     have HK:=Lib.hid (kept_no HU.out hf)
     clear hf
     go_wp2_with fail
     go_roundw
     case rel=>exact⟨m,j+1,zs,hlt,by omega,rfl,by go_num,hz,(by show _=_;rw [HK.out];exact HT.out),Lib.hid (fun i hi=>HJ.out i (by omega)),HI8,HG8⟩
     case measure=>simp [intOf];omega
    | false =>
     have HK:=Lib.hid (kept_yes HU.out hf)
     have hml:m<zs.length:=by omega
     have HFs:=Lib.hid (flat_set encVert_len zs m u hml)
     have hel:=encVert_len u
     have hone:=oneVert u
     clear hf
     go_wp2_with ((with_reducible show wpList _ _ _ ({dst:=_,op:=.store _ _ _,type:=_,pos:=_,after:=_,guard:=_} :: _) _ _);(refine wpList_store_own rowVert rfl _ _ rfl HI8.out (m*9) (encVert u) rfl rfl rfl (by rw [hel];omega) hone ?_);intro w9 hI9 hg9 hs9)
     have HI9:Hid (OwnAt w9 B 86 9 g xs.length cap ((zs.set m u).flatMap encVert)):=by show OwnAt _ _ _ _ _ _ _ _;rw [HFs.out,show(m+1)*9=m*9+(encVert u).length by rw [hel];omega];exact hI9
     have HG9:=Lib.hid (grown_trans HG8.out hg9)
     clear hI9 hg9
     go_wp2_with fail
     go_roundw
     case rel=>exact⟨m+1,j+1,zs.set m u,hlt,by omega,by go_num,by go_num,by simpa using hz,(by show _=_;rw [take_set_end hml,HK.out,HT.out]),Lib.hid (fun i hi=>by rw [List.getElem?_set,if_neg (by omega)];exact HJ.out i (by omega)),HI9,HG9⟩
     case measure=>simp [intOf];omega
   ·
    obtain rfl:j=xs.length:=by omega
    have HE:Hid (zs.take m=xs.filter aliveQ):=by show _=_;rw [HT.out,kept_all]
    have hlen:(xs.filter aliveQ).length=m:=by rw [← HE.out,List.length_take];omega
    have HL:=Lib.hid hlen
    have HTk:=Lib.hid (HI.out.take (k:=m) (by omega))
    have hcm2:¬ cap=m:=by omega
    have HF:Hid ((zs.flatMap encVert).take (m*9)=(xs.filter aliveQ).flatMap encVert):=by
     show _=_
     rw [← HE.out]
     conv=>lhs;rw [← List.take_append_drop m zs,List.flatMap_append]
     have:((zs.take m).flatMap encVert).length=m*9:=by rw [flat_len encVert_len,List.length_take,Nat.min_eq_left (by omega)]
     rw [List.take_append_of_le_length (by omega),List.take_of_length_le (by omega)]
    clear hlen
    go_wp2_with (refine wpList_clear_at slVertP _ zero_Vert (zero_one oneZ_Vert) (fun k=>by rw [size_zeroCells];rfl) rfl _ rfl B g m cap _ HTk.out m _ _ _ rfl rfl (Nat.le_refl _) (by omega) ?_;intro w3 hA3 hg3 hs3)
    go_ret
    refine⟨_,rfl,?_,grown_trans HG.out hg3⟩
    show World.ownsRow _ _ _ _ _ _ _
    rw [HL.out,← HF.out]
    exact hA3.own

/-! ### the names of a file -/
set_option maxHeartbeats 4000000 in
set_option maxRecDepth 100000 in
theorem laterCmpG(a b:VertM)(w:World):Calls Tryz.prog 117 #[vertV a,vertV b] w fun e w'=>e=.returned (.int .i64 (cmpLater b.id a.id))∧Grew w w':=by
 have HA:=Lib.hid ((arr_new w #[.int .u8 a.id.pid.author.toNat,.int .u16 a.id.pid.seq.toNat,.int .u8 a.id.n.toNat,.int .u8 a.kind.toNat,.int .u8 a.file.pid.author.toNat,.int .u16 a.file.pid.seq.toNat,.int .u8 a.file.n.toNat,.string a.text,.bool a.dead] 86).alloc (.cells #[.int .u8 b.id.pid.author.toNat,.int .u16 b.id.pid.seq.toNat,.int .u8 b.id.n.toNat,.int .u8 b.kind.toNat,.int .u8 b.file.pid.author.toNat,.int .u16 b.file.pid.seq.toNat,.int .u8 b.file.n.toNat,.string b.text,.bool b.dead] 86))
 have HC:=Lib.hid (arr_new2 w (.cells #[.int .u8 a.id.pid.author.toNat,.int .u16 a.id.pid.seq.toNat,.int .u8 a.id.n.toNat,.int .u8 a.kind.toNat,.int .u8 a.file.pid.author.toNat,.int .u16 a.file.pid.seq.toNat,.int .u8 a.file.n.toNat,.string a.text,.bool a.dead] 86) #[.int .u8 b.id.pid.author.toNat,.int .u16 b.id.pid.seq.toNat,.int .u8 b.id.n.toNat,.int .u8 b.kind.toNat,.int .u8 b.file.pid.author.toNat,.int .u16 b.file.pid.seq.toNat,.int .u8 b.file.n.toNat,.string b.text,.bool b.dead] 86)
 have HB:=Lib.hid (((Grew.refl w).alloc (.cells #[.int .u8 a.id.pid.author.toNat,.int .u16 a.id.pid.seq.toNat,.int .u8 a.id.n.toNat,.int .u8 a.kind.toNat,.int .u8 a.file.pid.author.toNat,.int .u16 a.file.pid.seq.toNat,.int .u8 a.file.n.toNat,.string a.text,.bool a.dead] 86)).alloc (.cells #[.int .u8 b.id.pid.author.toNat,.int .u16 b.id.pid.seq.toNat,.int .u8 b.id.n.toNat,.int .u8 b.kind.toNat,.int .u8 b.file.pid.author.toNat,.int .u16 b.file.pid.seq.toNat,.int .u8 b.file.n.toNat,.string b.text,.bool b.dead] 86))
 unfold vertV
 go_enter Tryz.func117,Tryz.ntmps117
 go_upto_region 1 with(fail)
 generalize hw0:(w.alloc (.cells #[.int .u8 a.id.pid.author.toNat,.int .u16 a.id.pid.seq.toNat,.int .u8 a.id.n.toNat,.int .u8 a.kind.toNat,.int .u8 a.file.pid.author.toNat,.int .u16 a.file.pid.seq.toNat,.int .u8 a.file.n.toNat,.string a.text,.bool a.dead] 86)).alloc (.cells #[.int .u8 b.id.pid.author.toNat,.int .u16 b.id.pid.seq.toNat,.int .u8 b.id.n.toNat,.int .u8 b.kind.toNat,.int .u8 b.file.pid.author.toNat,.int .u16 b.file.pid.seq.toNat,.int .u8 b.file.n.toNat,.string b.text,.bool b.dead] 86)=w0 at *
 clear hw0
 have c0:=HA.out.cell (j:=0) rfl
 have c1:=HA.out.cell (j:=1) rfl
 have c2:=HA.out.cell (j:=2) rfl
 have c3:=HA.out.cell (j:=3) rfl
 have c4:=HA.out.cell (j:=4) rfl
 have c5:=HA.out.cell (j:=5) rfl
 have c6:=HA.out.cell (j:=6) rfl
 have c7:=HA.out.cell (j:=7) rfl
 have c8:=HA.out.cell (j:=8) rfl
 have sc:=HA.out.lt
 have d0:=HC.out.cell (j:=0) rfl
 have d1:=HC.out.cell (j:=1) rfl
 have d2:=HC.out.cell (j:=2) rfl
 have d3:=HC.out.cell (j:=3) rfl
 have d4:=HC.out.cell (j:=4) rfl
 have d5:=HC.out.cell (j:=5) rfl
 have d6:=HC.out.cell (j:=6) rfl
 have d7:=HC.out.cell (j:=7) rfl
 have d8:=HC.out.cell (j:=8) rfl
 have sd:=HC.out.lt
 go_wp2_with fail
 refine(vlaterG b.id a.id _).mono ?_
 rintro e w1 ⟨rfl,hg⟩
 have HG:=Lib.hid (HB.out.trans hg)
 clear hg
 go_wp2_with fail
 go_ret
 exact⟨rfl,HG.out⟩
theorem later_neg(x y:VertM):(cmpLater y.id x.id<0)=(revK x.id<revK y.id):=by
 have h1:=laterK_lt x.id
 have h2:=laterK_lt y.id
 unfold cmpLater revK
 rw [cmpN_neg]
 refine propext ⟨fun h => ?_,fun h => ?_⟩ <;> omega
theorem sortLater_any{w:World}{B g cap:Nat}{xs:List VertM}(h:OwnAt w B 86 9 g xs.length cap (xs.flatMap encVert))(hn:xs.length≤1000000000) :
  Calls Tryz.prog 101 #[.slice (some ⟨g,0,none⟩) xs.length cap,.func (.func 117) #[] #[]] w (SortRes (fun a b=>cmpLater b.id a.id) encVert 9 86 w B g cap xs):=by
 have hcon:=sortF_any (P:=Tryz.prog) Tryz.sortVert (k:=9) (enc:=encVert) Tryz.isAgg86 Tryz.sizeOf86 (fun _=>rfl) oneVert (fun a b=>cmpLater b.id a.id) (swo_key (fun x:VertM=>revK x.id) _ later_neg) 117 (enters_of Tryz.func117 (by kernel_rfl) rfl) (fun x y W=>laterCmpG x y W) h (by omega)
 exact hcon
theorem aliveM_q(L:List PatchM)(f:VidM):(ofM L f 2).filter aliveQ=aliveM L f:=by unfold aliveQ;rfl
theorem ofM_len(L:List PatchM)(f:VidM)(k:UInt8):(ofM L f k).length≤(idsM L).length:=Nat.le_trans (List.length_filter_le _ _) (by unfold vertsM;rw [List.length_map];exact Nat.le_refl _)
attribute [local irreducible] ofM aliveM namesM idsM
set_option maxHeartbeats 4000000 in
set_option maxRecDepth 100000 in
theorem nof_any(b:Nat)(L:List PatchM)(file:VidM)(w:World)(hg:GrIs w b L)(hw:WfG L)(hil:(idsM L).length≤1000000) :
  Calls Tryz.prog 68 #[.pointer (some ⟨b,0,none⟩),vidV file] w (OwnRes encVert 9 86 w (namesM L file)):=by
 have HF:=Lib.hid (arr_new w #[.int .u8 file.pid.author.toNat,.int .u16 file.pid.seq.toNat,.int .u8 file.n.toNat] 27)
 have HB:=Lib.hid (below_new (w:=w) (.cells #[.int .u8 file.pid.author.toNat,.int .u16 file.pid.seq.toNat,.int .u8 file.n.toNat] 27))
 have HG:=Lib.hid hg
 have HW:=Lib.hid hw
 have HQ:=Lib.hid (aliveM_q L file)
 have hol:=ofM_len L file 2
 have HE:=Lib.hid (fun(out:List VertM) (hp:out.Perm (aliveM L file)) hs=>names_eq (wf_len hw) file hp hs)
 clear hg hw
 unfold vidV
 go_enter Tryz.func68,Tryz.ntmps68
 go_upto_region 1 with(fail)
 generalize hw0:w.alloc (.cells #[.int .u8 file.pid.author.toNat,.int .u16 file.pid.seq.toNat,.int .u8 file.n.toNat] 27)=w0 at *
 clear hw0
 have c0:=HF.out.cell (j:=0) rfl
 have c1:=HF.out.cell (j:=1) rfl
 have c2:=HF.out.cell (j:=2) rfl
 have sc:=HF.out.lt
 go_wp2_with fail
 refine(gof_any b L file 2 _ (HG.out.over HB.out) HW.out hil).mono ?_
 rintro e w1 ⟨v1,rfl,ho1,hb1⟩
 have HB1:=Lib.hid (below_over HB.out HB.out.size hb1)
 have HV1:Hid (∀ k,v1.ownBlock=some k→w.heap.size≤k):=fun k hk=>Nat.le_trans HB.out.size (gown_base ho1 hk)
 have HO1:=Lib.hid ho1
 clear hb1 ho1
 go_wp2_with fail
 refine(delete_any HO1.out (by omega)).mono ?_
 rintro e w2 ⟨v2,rfl,ho2,hg2⟩
 rw [HQ.out] at ho2
 have HB2:=Lib.hid (HB1.out.grown hg2 HB1.out.size HV1.out)
 have HO2:=Lib.hid (ho2.base HB.out.size)
 have hal:(aliveM L file).length≤1000000:=by rw [← HQ.out];exact Nat.le_trans (List.length_filter_le _ _) (by omega)
 clear ho2 hg2 HV1
 rcases own_cases HO2.out with⟨h0,p,c,rfl⟩|⟨hne,g,cap,rfl,hA⟩
 ·
  have HN:Hid (([]:List VertM)=namesM L file):=HE.out [] (by rw [h0]) List.Pairwise.nil
  go_wp2_with fail
  refine(sortVert_none _ _ _ _).mono ?_
  rintro e w3 ⟨rfl,hw3⟩
  obtain rfl:=hw3.symm
  go_wp2_with fail
  go_ret
  exact⟨_,rfl,(by rw [← HN.out,← h0];exact HO2.out),HB2.out⟩
 ·
  have HAt:=Lib.hid hA
  clear hA
  go_wp2_with fail
  refine(sortLater_any HAt.out (by omega)).mono ?_
  rintro e w3 ⟨rfl,ys,hp,hs,hA3,hg3⟩
  have HN:=Lib.hid (HE.out ys hp (hs.imp fun h=>by simpa using h))
  have hyl:=hp.length_eq
  have HO3:Hid (GOwn encVert 9 86 w3 w.heap.size (.slice (some ⟨g,0,none⟩) (aliveM L file).length cap) ys):=by show World.ownsRow _ _ _ _ _ _ _;rw [hyl];exact hA3.own
  have HG3:=Lib.hid hg3
  clear hp hs hA3 hg3 hyl
  go_wp2_with fail
  go_ret
  exact⟨_,rfl,(by rw [← HN.out];exact HO3.out),HB2.out.grown HG3.out HB2.out.size fun k hk=>by cases hk;exact HAt.out.base⟩
end Go.Proofs.YtanfebljiblhbaaGreatDoor
namespace Go.Proofs.YtanfebljiblhbaaGreatDoor
open Go Go.RowKit

/-! ### a row of names that is filled -/
def atL(at':List VidM)(j m:Nat):List VidM:=at'++List.replicate (m - j) noVid
theorem atL_set{at':List VidM}{j m:Nat}(ha:at'.length=j)(hj:j<m)(v:VidM):(atL at' j m).set j v=atL (at'++[v]) (j+1) m:=by
 unfold atL
 rw [List.set_append_right _ _ (by omega),ha,Nat.sub_self,show m - j=(m - (j+1))+1 by omega,List.replicate_succ,List.set_cons_zero,List.append_assoc]
 rfl
theorem atL_len{at':List VidM}{j m:Nat}(ha:at'.length=j)(hj:j≤m):(atL at' j m).length=m:=by unfold atL;rw [List.length_append,ha,List.length_replicate];omega
structure MidE (wr:World) (w0:World) (gK gA m j:Nat) (ks:List Int) (p:Option Addr) (c:Nat) (ops:List OpM) (at':List VidM):Prop where
 kept:ArrT wr gK 3 (keptV1 ks)
 names:ArrT wr gA 27 ((atL at' j m).flatMap encVid)
 own:GOwn encOp 8 96 wr w0.heap.size (.slice p ops.length c) ops
 below:Below w0.heap.size w0 wr
theorem MidE.over{wr w0 w2:World}{gK gA m j:Nat}{ks:List Int}{p:Option Addr}{c:Nat}{ops:List OpM}{at':List VidM}(h:MidE wr w0 gK gA m j ks p c ops at')(hb:Below wr.heap.size wr w2):MidE w2 w0 gK gA m j ks p c ops at':=
 ⟨h.kept.over hb,h.names.over hb,h.own.over hb,below_over h.below h.below.size hb⟩
section
variable {P : Program} {ty : TypeId} {size : Nat} {w : World} {ops : Array Oper} {rest : List Oper} {o : Oper} {a : Act} {Q : Exit → Act → World → Prop}
end
theorem vids_put{l:List VidM}{j:Nat}{v:VidM}(h:j<l.length):(l.flatMap encVid).take (j*3)++encVid v++(l.flatMap encVid).drop (j*3+(encVid v).length)=(l.set j v).flatMap encVid:=by
 rw [flat_set encVid_len l j v h,show(j+1)*3=j*3+(encVid v).length by rw [encVid_len];omega]
/-- a name more -/
theorem MidE.name{wr w' w0:World}{gK gA m j:Nat}{ks:List Int}{p:Option Addr}{c:Nat}{ops:List OpM}{at':List VidM}(h:MidE wr w0 gK gA m j ks p c ops at')(ha:at'.length=j)(hj:j<m)(hg:w0.heap.size≤gA)(hne:gK≠gA){v:VidM}
  (hA:ArrT w' gA 27 (((atL at' j m).flatMap encVid).take (j*3)++encVid v++((atL at' j m).flatMap encVid).drop (j*3+(encVid v).length))) (hgr:wr.grownBy w' (some gA)):MidE w' w0 gK gA m (j+1) ks p c ops (at'++[v]):=by
 rw [vids_put (by rw [atL_len ha (Nat.le_of_lt hj)];exact hj),atL_set ha hj] at hA
 exact⟨h.kept.kept hgr (fun e=>hne (Option.some.inj e)),hA,own_kept h.own hgr (h.names.ne h.own (by decide)),h.below.grown hgr h.below.size fun q hq=>by cases hq;exact hg⟩
/-- an operation more -/
theorem MidE.op{wr w0 w9:World}{gK gA m j:Nat}{ks:List Int}{p p9:Option Addr}{c c9:Nat}{ops ops9:List OpM}{at':List VidM}(h:MidE wr w0 gK gA m j ks p c ops at')(ho:GOwn encOp 8 96 w9 w0.heap.size (.slice p9 ops9.length c9) ops9)(hg:wr.grownBy w9 (Value.slice p ops.length c).ownBlock) :
  MidE w9 w0 gK gA m j ks p9 c9 ops9 at':=
 ⟨h.kept.kept hg (h.kept.ne h.own (by decide)),h.names.kept hg (h.names.ne h.own (by decide)),ho,below_grown h.below h.below.size h.own hg⟩
attribute [local irreducible] keptV1 textAt aliveX atL
end Go.Proofs.YtanfebljiblhbaaGreatDoor
namespace Go.Proofs.YtanfebljiblhbaaGreatDoor
open Go Go.RowKit

def ShV(w:World)(s:Option Addr)(l:List VertM)(R:List (Nat × Nat)):Prop:=(∃ b,s=some ⟨b,0,none⟩∧ShAt w b l R)∨(s=none∧l=[]∧R=[])
theorem ShV.over{w w':World}{s:Option Addr}{l:List VertM}{R:List (Nat × Nat)}(h:ShV w s l R)(hb:Below w.heap.size w w'):ShV w' s l R:=
 h.imp (fun⟨b,e,h⟩=>⟨b,e,h.over hb⟩) id
end Go.Proofs.YtanfebljiblhbaaGreatDoor
namespace Go.Proofs.YtanfebljiblhbaaGreatDoor
open Go Go.RowKit

def markA:ByteArray:=⟨#[60,60,60,60,60,60,60]⟩
def markS:ByteArray:=⟨#[61,61,61,61,61,61,61]⟩
def markT:ByteArray:=⟨#[124,124,124,124,124,124,124]⟩
def markE:ByteArray:=⟨#[62,62,62,62,62,62,62]⟩
mutual
/-- what is seen of a block -/
def seenOne(l:List VertM):BlkM→List ByteArray
 | .mk k n s=>if k=1 then(if 0≤n∧n<(l.length:Int) then [textAt l n.toNat] else []) else if k=4 then seenAll l s else if k=2 then markA :: (seenJoin l markS true s++[markE]) else if k=3 then markA :: (seenJoin l markT true s++[markE]) else []
def seenAll(l:List VertM):List BlkM→List ByteArray
 | []=>[]
 | b :: r=>seenOne l b++seenAll l r
def seenJoin(l:List VertM)(m:ByteArray)(first:Bool):List BlkM→List ByteArray
 | []=>[]
 | b :: r=>(if first then [] else [m])++(seenOne l b++seenJoin l m false r)
end
theorem seenOne_mk(l:List VertM)(k n:Int)(s:List BlkM):seenOne l (.mk k n s)=if k=1 then(if 0≤n∧n<(l.length:Int) then [textAt l n.toNat] else []) else if k=4 then seenAll l s else if k=2 then markA :: (seenJoin l markS true s++[markE]) else if k=3 then markA :: (seenJoin l markT true s++[markE]) else []:=by rw [seenOne]
theorem seenAll_nil(l:List VertM):seenAll l []=[]:=by rw [seenAll]
theorem seenAll_cons(l:List VertM)(b:BlkM)(r:List BlkM):seenAll l (b :: r)=seenOne l b++seenAll l r:=by rw [seenAll]
theorem seenJoin_nil(l:List VertM)(m:ByteArray)(f:Bool):seenJoin l m f []=[]:=by rw [seenJoin]
theorem seenJoin_cons(l:List VertM)(m:ByteArray)(f:Bool)(b:BlkM)(r:List BlkM):seenJoin l m f (b :: r)=(if f then [] else [m])++(seenOne l b++seenJoin l m false r):=by rw [seenJoin]
/-! ### Sheet.Vert -/
end Go.Proofs.YtanfebljiblhbaaGreatDoor
namespace Go.Proofs.YtanfebljiblhbaaGreatDoor
open Go Go.RowKit

/-- the texts seen so far, in their box; the sheet in its box -/
structure OutAt (wr w0:World) (go gs:Nat) (s:Option Addr) (p:Option Addr) (c:Nat) (out:List ByteArray):Prop where
 box:ArrT wr go 64 [.slice p out.length c]
 own:GOwn encS1 1 9 wr w0.heap.size (.slice p out.length c) out
 sheet:ArrT wr gs 78 [.pointer s]
 world:Below w0.heap.size w0 wr
theorem OutAt.over{wr w' w0:World}{go gs:Nat}{s p:Option Addr}{c:Nat}{out:List ByteArray}(h:OutAt wr w0 go gs s p c out)(hb:Below wr.heap.size wr w'):OutAt w' w0 go gs s p c out:=
 ⟨h.box.over hb,h.own.over hb,h.sheet.over hb,below_over h.world h.world.size hb⟩
theorem OutAt.ne{wr w0:World}{go gs:Nat}{s p:Option Addr}{c:Nat}{out:List ByteArray}(h:OutAt wr w0 go gs s p c out):gs≠go:=h.sheet.ne_type h.box (by decide)
/-- texts appended, and stored in the box -/
theorem OutAt.push{wr w6 w0:World}{go gs:Nat}{s p p6:Option Addr}{c c6:Nat}{out o1:List ByteArray}(h:OutAt wr w0 go gs s p c out)(hgo:w0.heap.size≤go)(_:w0.heap.size≤gs)
  (ho:GOwn encS1 1 9 w6 w0.heap.size (.slice p6 o1.length c6) o1) (hg:wr.grownBy w6 (Value.slice p out.length c).ownBlock):OutAt (w6.setCell ⟨go,0,none⟩ (.slice p6 o1.length c6)) w0 go gs s p6 c6 o1:=by
 have hb:=h.box.grown h.own (by decide) hg
 refine⟨hb.set 0 _,own_set ho (fun q=>hb.ne ho (by decide) q.symm) _ _,(h.sheet.grown h.own (by decide) hg).set_other h.ne _,(below_grown h.world h.world.size h.own hg).setCell hgo _⟩
theorem one_size{sub:List BlL}{x:BlL}(h:x∈sub):SizeOf.sizeOf [x]≤SizeOf.sizeOf sub:=by
 induction sub with
 | nil=>exact absurd h (List.not_mem_nil)
 | cons y r ih =>
  rcases List.mem_cons.1 h with rfl|h
  ·
   simp only [List.cons.sizeOf_spec,List.nil.sizeOf_spec]
   have:1≤SizeOf.sizeOf r:=by cases r <;> simp <;> omega
   omega
  ·
   have:=ih h
   simp only [List.cons.sizeOf_spec] at *
   omega
attribute [local irreducible] seenJoin seenAll seenOne bareL bareB
end Go.Proofs.YtanfebljiblhbaaGreatDoor
namespace Go.Proofs.YtanfebljiblhbaaGreatDoor
open Go Go.RowKit

theorem bareB_mk(k n:Int)(sv:Value)(s:List BlL):bareB (.mk k n sv s)=.mk k n (bareL s):=by unfold bareB;rfl
attribute [local irreducible] seenJoin seenAll seenOne bareL bareB
end Go.Proofs.YtanfebljiblhbaaGreatDoor
namespace Go.Proofs.YtanfebljiblhbaaGreatDoor
open Go Go.RowKit

def sumN:List Nat→Nat
 | []=>0
 | x :: l=>x+sumN l
theorem sumN_append:∀ a b:List Nat,sumN (a++b)=sumN a+sumN b
 | [],b=>by simp [sumN]
 | x :: a,b=>by rw [List.cons_append,sumN,sumN,sumN_append a b];omega
/-- of things that exclude one another, at most one holds of each -/
theorem count_one{α β:Type}(P:α→β→Bool)(x:β):∀ {hs:List α},hs.Pairwise (fun a b=>∀ x,¬ (P a x=true∧P b x=true))→hs.countP (fun h=>P h x)≤1
 | [],_=>by simp
 | h :: hs,hp=>by
  obtain⟨h1,h2⟩:=List.pairwise_cons.1 hp
  have ih:=count_one P x h2
  rw [List.countP_cons]
  cases hx:P h x with
  | false=>simp;exact ih
  | true =>
   have:hs.countP (fun h=>P h x)=0:=List.countP_eq_zero.2 fun g hg hgx=>h1 g hg x ⟨hx,hgx⟩
   simp [this]
theorem sum_count{α β:Type}(P:α→β→Bool){hs:List α}(hp:hs.Pairwise (fun a b=>∀ x,¬ (P a x=true∧P b x=true))):∀ xs:List β,sumN (hs.map fun h=>(xs.filter (P h)).length)≤xs.length
 | []=>by
  have:∀ hs:List α,sumN (hs.map fun h=>(([]:List β).filter (P h)).length)=0:=by
   intro hs
   induction hs with
   | nil=>rfl
   | cons a hs ih=>rw [List.map_cons,sumN,ih];rfl
  rw [this];exact Nat.zero_le _
 | x :: xs=>by
  have ih:=sum_count P hp xs
  have h1:=count_one P x hp
  have:∀ hs:List α,sumN (hs.map fun h=>((x :: xs).filter (P h)).length)=sumN (hs.map fun h=>(xs.filter (P h)).length)+hs.countP (fun h=>P h x):=by
   intro hs
   induction hs with
   | nil=>rfl
   | cons a hs ih2 =>
    rw [List.map_cons,List.map_cons,sumN,sumN,ih2,List.countP_cons,List.filter_cons]
    cases P a x <;> simp <;> omega
  rw [this,List.length_cons];omega
theorem sides_sum(R:List (Nat × Nat))(l:List Nat):sumN ((sidesM R l).map List.length)≤l.length:=by
 unfold sidesM
 rw [List.map_map]
 have hp:(headsM R l l.length).Pairwise (fun a b=>∀ x,¬ (nearD R l a x=true∧nearD R l b x=true)):=by
  unfold headsM
  refine((List.pairwise_lt_range (n:=l.length)).filter _).imp_of_mem ?_
  intro a b _ hb hab x hx
  have hb2:=headB_iff.1 (List.mem_filter.1 hb).2
  exact hb2 a hab ((nearD_iff.1 hx.1).trans (nearD_iff.1 hx.2).symm)
 have:=sum_count (nearD R l) hp (List.range l.length)
 rw [List.length_range] at this
 exact this
theorem sides_pos{R:List (Nat × Nat)}{l:List Nat}{s:List Nat}(hs:s∈sidesM R l):0<s.length:=by
 unfold sidesM at hs
 obtain⟨i,hi,rfl⟩:=List.mem_map.1 hs
 have hi2:=(mem_heads.1 hi).1
 exact List.length_pos_of_mem (mem_sideM.2 (.self hi2))
theorem sides_some{R:List (Nat × Nat)}{l:List Nat}(h:0<l.length):0<(sidesM R l).length:=by
 unfold sidesM
 rw [List.length_map]
 exact List.length_pos_of_mem (a:=0) (mem_heads.2 ⟨h,headB_iff.2 fun k hk=>absurd hk (by omega)⟩)
/-- the pieces: none is empty; together they are what was cut -/
theorem pieces_sum(R:List (Nat × Nat))(l:List Nat):∀ k,k≤l.length→sumN ((piecesTo R l k).1.map List.length)=(piecesTo R l k).2∧∀ p∈(piecesTo R l k).1,0<p.length∧p.length≤k
 | 0,_=>⟨rfl,fun p hp=>absurd hp (List.not_mem_nil)⟩
 | k+1,hk=>by
  obtain⟨h1,h2⟩:=pieces_sum R l k (by omega)
  have h3:=pieces_at R l k
  by_cases h:k+1=l.length∨cutB R l (k+1)=true
  ·
   rw [pieces_yes h]
   have hl:((l.take (k+1)).drop (piecesTo R l k).2).length=k+1 - (piecesTo R l k).2:=by rw [List.length_drop,List.length_take];omega
   refine⟨?_,fun p hp => ?_⟩
   ·
    show sumN (((piecesTo R l k).1++[(l.take (k+1)).drop (piecesTo R l k).2]).map List.length)=k+1
    rw [List.map_append,sumN_append,h1,List.map_cons,List.map_nil,sumN,sumN,hl];omega
   ·
    rcases List.mem_append.1 hp with hp|hp
    ·
     have:=h2 p hp;omega
    ·
     rw [List.mem_singleton.1 hp,hl];omega
  ·
   rw [pieces_no h]
   exact⟨h1,fun p hp=>by have:=h2 p hp;omega⟩
/-! ### how much is seen, how many are odd -/
theorem seenAll_sum(l:List VertM):∀ bs:List BlkM,(seenAll l bs).length=sumN (bs.map fun b=>(seenOne l b).length)
 | []=>by rw [seenAll_nil];rfl
 | b :: bs=>by rw [seenAll_cons,List.length_append,seenAll_sum l bs];rfl
theorem seenJoin_sum(l:List VertM)(m:ByteArray):∀(bs:List BlkM) (f:Bool),(seenJoin l m f bs).length≤sumN (bs.map fun b=>(seenOne l b).length)+bs.length
 | [],f=>by rw [seenJoin_nil];exact Nat.zero_le _
 | b :: bs,f=>by
  have:=seenJoin_sum l m bs false
  rw [seenJoin_cons,List.length_append,List.length_append,List.map_cons,sumN,List.length_cons]
  cases f <;> simp <;> omega
theorem seen_line(l:List VertM)(i:Nat):(seenOne l (lineB i)).length≤1:=by
 unfold lineB
 rw [seenOne_mk,if_pos rfl]
 split <;> simp
theorem sum_lines(l:List VertM):∀ t:List Nat,sumN ((t.map lineB).map fun b=>(seenOne l b).length)≤t.length
 | []=>Nat.le_refl _
 | i :: t=>by
  have h1:=sum_lines l t
  have h2:=seen_line l i
  rw [List.map_cons,List.map_cons,sumN,List.length_cons];omega
theorem sum_le{α:Type}(f g:α→Nat):∀ xs:List α,(∀ x∈xs,f x+3≤4*g x)→sumN (xs.map f)+3*xs.length≤4*sumN (xs.map g)
 | [],_=>Nat.le_refl _
 | x :: xs,h=>by
  have h1:=h x (List.mem_cons_self ..)
  have h2:=sum_le f g xs fun y hy=>h y (List.mem_cons_of_mem _ hy)
  rw [List.map_cons,List.map_cons,sumN,sumN,List.length_cons];omega
theorem seenJoin_first(l:List VertM)(m:ByteArray){bs:List BlkM}(h:0<bs.length):(seenJoin l m true bs).length+1≤sumN (bs.map fun b=>(seenOne l b).length)+bs.length:=by
 cases bs with
 | nil=>exact absurd h (by simp)
 | cons b bs =>
  have:=seenJoin_sum l m bs false
  rw [seenJoin_cons,List.length_append,List.length_append,List.map_cons,sumN,List.length_cons]
  simp;omega
theorem things_len(l s:List Nat):(thingsM l s).length=s.length:=by unfold thingsM;rw [List.length_map]
theorem piece_seen(l:List VertM)(R:List (Nat × Nat))(F:List Nat→List BlkM)(p:List Nat)(hp:0<p.length)(hF:∀ t:List Nat,t.length<p.length→0<t.length→(seenAll l (F t)).length+3≤4*t.length):(seenOne l (pieceM R F p)).length+3≤4*p.length:=by
 by_cases h1:p.length=1
 ·
  unfold pieceM
  rw [if_pos h1]
  have:=seen_line l (p.getD 0 0);omega
 ·
  by_cases h2:(sidesM R p).length=1
  ·
   unfold pieceM
   rw [if_neg h1,if_pos h2,seenOne_mk]
   rw [if_neg (by decide),if_neg (by decide),if_neg (by decide),if_pos rfl]
   have h3:=seenJoin_first l markT (bs:=p.map lineB) (by rw [List.length_map];exact hp)
   have h4:=sum_lines l p
   rw [List.length_map] at h3
   rw [List.length_cons,List.length_append,List.length_singleton];omega
  ·
   unfold pieceM
   rw [if_neg h1,if_neg h2,seenOne_mk]
   rw [if_neg (by decide),if_neg (by decide),if_pos rfl]
   have h0:=sides_some (R:=R) hp
   have h3:=seenJoin_first l markS (bs:=(sidesM R p).map fun s=>BlkM.mk 4 0 (F (thingsM p s))) (by rw [List.length_map];exact h0)
   rw [List.length_map,List.map_map] at h3
   have h4:=sum_le (fun s=>(seenOne l (BlkM.mk 4 0 (F (thingsM p s)))).length) List.length (sidesM R p) fun s hs=>by
    rw [seenOne_mk,if_neg (by decide),if_pos rfl]
    have h6:=sides_less h2 hs
    have h7:=sides_pos hs
    have h8:=hF (thingsM p s) (by rw [things_len];exact h6) (by rw [things_len];exact h7)
    rw [things_len] at h8
    exact h8
   have h5:=sides_sum R p
   have h6:sumN ((sidesM R p).map ((fun b=>(seenOne l b).length) ∘ fun s=>BlkM.mk 4 0 (F (thingsM p s))))=sumN ((sidesM R p).map fun s=>(seenOne l (BlkM.mk 4 0 (F (thingsM p s)))).length):=rfl
   rw [h6] at h3
   rw [List.length_cons,List.length_append,List.length_singleton];omega
theorem pieces_end{R:List (Nat × Nat)}{t:List Nat}(h:0<t.length):(piecesM R t)≠[]∧sumN ((piecesM R t).map List.length)=t.length:=by
 obtain⟨k,hk⟩:∃ k,t.length=k+1:=⟨t.length - 1,by omega⟩
 have h1:=pieces_yes (R:=R) (l:=t) (k:=k) (.inl hk.symm)
 have h2:=(pieces_sum R t t.length (Nat.le_refl _)).1
 unfold piecesM
 refine⟨?_,?_⟩
 ·
  rw [hk,h1];simp
 ·
  rw [h2,hk,h1]
theorem seen_bound(l:List VertM)(R:List (Nat × Nat)):∀(f:Nat) (t:List Nat),t.length<f→0<t.length→(seenAll l (blkM R f t)).length+3≤4*t.length
 | 0,t,h,_=>absurd h (Nat.not_lt_zero _)
 | f+1,t,h,h0=>by
  obtain⟨h1,h2⟩:=pieces_end (R:=R) h0
  rw [blkM,seenAll_sum,List.map_map]
  have h3:=sum_le (fun p=>(seenOne l (pieceM R (blkM R f) p)).length) List.length (piecesM R t) fun p hp=>by
   have h4:=(pieces_sum R t t.length (Nat.le_refl _)).2 p hp
   exact piece_seen l R (blkM R f) p h4.1 fun u hu hu0=>seen_bound l R f u (by omega) hu0
  have h5:0<(piecesM R t).length:=List.length_pos_iff.2 h1
  have h6:sumN ((piecesM R t).map ((fun b=>(seenOne l b).length) ∘ pieceM R (blkM R f)))=sumN ((piecesM R t).map fun p=>(seenOne l (pieceM R (blkM R f) p)).length):=rfl
  rw [h6];omega
theorem oddL_sum:∀ bs:List BlkM,oddL bs=sumN (bs.map oddB)
 | []=>by rw [oddL_nil];rfl
 | b :: bs=>by rw [oddL_cons,oddL_sum bs];rfl
theorem odd_lines:∀ t:List Nat,oddL (t.map lineB)=0
 | []=>oddL_nil
 | i :: t=>by rw [List.map_cons,oddL_cons,odd_lines t];unfold lineB;rw [odd_1]
theorem sum_le1{α:Type}(f g:α→Nat):∀ xs:List α,(∀ x∈xs,f x+1≤g x)→sumN (xs.map f)+xs.length≤sumN (xs.map g)
 | [],_=>Nat.le_refl _
 | x :: xs,h=>by
  have h1:=h x (List.mem_cons_self ..)
  have h2:=sum_le1 f g xs fun y hy=>h y (List.mem_cons_of_mem _ hy)
  rw [List.map_cons,List.map_cons,sumN,sumN,List.length_cons];omega
theorem piece_odd(R:List (Nat × Nat))(F:List Nat→List BlkM)(p:List Nat)(hp:0<p.length)(hF:∀ t:List Nat,t.length<p.length→0<t.length→oddL (F t)+1≤t.length):oddB (pieceM R F p)+1≤p.length:=by
 by_cases h1:p.length=1
 ·
  unfold pieceM
  rw [if_pos h1]
  unfold lineB
  rw [odd_1];omega
 ·
  by_cases h2:(sidesM R p).length=1
  ·
   unfold pieceM
   rw [if_neg h1,if_pos h2,odd_23 (.inr rfl),odd_lines];omega
  ·
   unfold pieceM
   rw [if_neg h1,if_neg h2,odd_23 (.inl rfl),oddL_sum,List.map_map]
   have h0:=sides_some (R:=R) hp
   have h4:=sum_le1 (fun s=>oddB (BlkM.mk 4 0 (F (thingsM p s)))) List.length (sidesM R p) fun s hs=>by
    rw [odd_0 (by decide) (by decide)]
    have h6:=sides_less h2 hs
    have h7:=sides_pos hs
    have h8:=hF (thingsM p s) (by rw [things_len];exact h6) (by rw [things_len];exact h7)
    rw [things_len] at h8
    exact h8
   have h5:=sides_sum R p
   have h6:sumN ((sidesM R p).map (oddB ∘ fun s=>BlkM.mk 4 0 (F (thingsM p s))))=sumN ((sidesM R p).map fun s=>oddB (BlkM.mk 4 0 (F (thingsM p s)))):=rfl
   rw [h6];omega
theorem odd_bound(R:List (Nat × Nat)):∀(f:Nat) (t:List Nat),t.length<f→0<t.length→oddL (blkM R f t)+1≤t.length
 | 0,t,h,_=>absurd h (Nat.not_lt_zero _)
 | f+1,t,h,h0=>by
  obtain⟨h1,h2⟩:=pieces_end (R:=R) h0
  rw [blkM,oddL_sum,List.map_map]
  have h3:=sum_le1 (fun p=>oddB (pieceM R (blkM R f) p)) List.length (piecesM R t) fun p hp=>by
   have h4:=(pieces_sum R t t.length (Nat.le_refl _)).2 p hp
   exact piece_odd R (blkM R f) p h4.1 fun u hu hu0=>odd_bound R f u (by omega) hu0
  have h5:0<(piecesM R t).length:=List.length_pos_iff.2 h1
  have h6:sumN ((piecesM R t).map (oddB ∘ pieceM R (blkM R f)))=sumN ((piecesM R t).map fun p=>oddB (pieceM R (blkM R f) p)):=rfl
  rw [h6];omega
end Go.Proofs.YtanfebljiblhbaaGreatDoor
namespace Go.Proofs.YtanfebljiblhbaaGreatDoor
open Go Go.RowKit

/-- what is seen of a file's lines, and how many are odd -/
noncomputable def lnBlk(l:List VertM)(R:List (Nat × Nat)):List BlkM:=blkM R ((aliveX l R).length+1) (aliveX l R)
noncomputable def lnSeen(l:List VertM)(R:List (Nat × Nat)):List ByteArray:=seenAll l (lnBlk l R)
noncomputable def lnOdd(l:List VertM)(R:List (Nat × Nat)):Nat:=oddL (lnBlk l R)
theorem blk_nil(R:List (Nat × Nat))(f:Nat):blkM R (f+1) []=[]:=by rw [blkM];rfl
theorem ln_few(l:List VertM)(R:List (Nat × Nat)):(lnSeen l R).length≤4*l.length∧lnOdd l R≤l.length:=by
 have h1:=aliveX_len l R
 unfold lnSeen lnOdd lnBlk
 rcases Nat.eq_zero_or_pos (aliveX l R).length with h|h
 ·
  rw [List.eq_nil_of_length_eq_zero h,show([]:List Nat).length+1=0+1 from rfl,blk_nil,seenAll_nil,oddL_nil]
  exact⟨Nat.zero_le _,Nat.zero_le _⟩
 ·
  have h2:=seen_bound l R ((aliveX l R).length+1) (aliveX l R) (by omega) h
  have h3:=odd_bound R ((aliveX l R).length+1) (aliveX l R) (by omega) h
  exact⟨by omega,by omega⟩
attribute [local irreducible] lnSeen lnOdd aliveX seenAll oddL blkM bareL
/-! ### nobody's sheet -/
end Go.Proofs.YtanfebljiblhbaaGreatDoor
namespace Go.Proofs.YtanfebljiblhbaaGreatDoor
open Go Go.RowKit

/-- a line, and whose it is -/
structure TLine where
 text:ByteArray
 id:VidM
deriving DecidableEq
def markL7(t:ByteArray):TLine:=⟨t,noVid⟩
def lineT(l:List VertM)(i:Nat):TLine:=⟨textAt l i,(l.getD i noVert).id⟩
mutual
/-- what is told of a block -/
def toldOne(l:List VertM):BlkM→List TLine
 | .mk k n s=>if k=1 then(if 0≤n∧n<(l.length:Int) then [lineT l n.toNat] else []) else if k=4 then toldAll l s else if k=2 then markL7 markA :: (toldJoin l markS true s++[markL7 markE]) else if k=3 then markL7 markA :: (toldJoin l markT true s++[markL7 markE]) else []
def toldAll(l:List VertM):List BlkM→List TLine
 | []=>[]
 | b :: r=>toldOne l b++toldAll l r
def toldJoin(l:List VertM)(m:ByteArray)(first:Bool):List BlkM→List TLine
 | []=>[]
 | b :: r=>(if first then [] else [markL7 m])++(toldOne l b++toldJoin l m false r)
end
theorem toldOne_mk(l:List VertM)(k n:Int)(s:List BlkM):toldOne l (.mk k n s)=if k=1 then(if 0≤n∧n<(l.length:Int) then [lineT l n.toNat] else []) else if k=4 then toldAll l s else if k=2 then markL7 markA :: (toldJoin l markS true s++[markL7 markE]) else if k=3 then markL7 markA :: (toldJoin l markT true s++[markL7 markE]) else []:=by rw [toldOne]
theorem toldAll_nil(l:List VertM):toldAll l []=[]:=by rw [toldAll]
theorem toldAll_cons(l:List VertM)(b:BlkM)(r:List BlkM):toldAll l (b :: r)=toldOne l b++toldAll l r:=by rw [toldAll]
theorem toldJoin_nil(l:List VertM)(m:ByteArray)(f:Bool):toldJoin l m f []=[]:=by rw [toldJoin]
theorem toldJoin_cons(l:List VertM)(m:ByteArray)(f:Bool)(b:BlkM)(r:List BlkM):toldJoin l m f (b :: r)=(if f then [] else [markL7 m])++(toldOne l b++toldJoin l m false r):=by rw [toldJoin]
theorem toldAll_append(l:List VertM):∀ a b:List BlkM,toldAll l (a++b)=toldAll l a++toldAll l b
 | [],b=>by rw [List.nil_append,toldAll_nil,List.nil_append]
 | x :: a,b=>by rw [List.cons_append,toldAll_cons,toldAll_cons,toldAll_append l a b,List.append_assoc]
theorem toldAll_one(l:List VertM)(b:BlkM):toldAll l [b]=toldOne l b:=by rw [toldAll_cons,toldAll_nil,List.append_nil]
theorem toldJoin_snoc(l:List VertM)(m:ByteArray):∀(a:List BlkM) (f:Bool) (b:BlkM),toldJoin l m f (a++[b])=toldJoin l m f a++((if f && a.isEmpty then [] else [markL7 m])++toldOne l b)
 | [],f,b=>by rw [List.nil_append,toldJoin_cons,toldJoin_nil,toldJoin_nil];simp
 | x :: a,f,b=>by
  rw [List.cons_append,toldJoin_cons,toldJoin_cons,toldJoin_snoc l m a false b]
  simp
mutual
/-- what is told is what is seen -/
theorem tldT_one(l:List VertM):∀ b:BlkM,(toldOne l b).map (·.text)=seenOne l b
 | .mk k n s=>by
  have h1:=tldT_all l s
  have h2:=tldT_join l markS true s
  have h3:=tldT_join l markT true s
  rw [toldOne_mk,seenOne_mk]
  split
  ·
   split <;> rfl
  ·
   split
   ·
    exact h1
   ·
    split
    ·
     rw [List.map_cons,List.map_append,h2];rfl
    ·
     split
     ·
      rw [List.map_cons,List.map_append,h3];rfl
     ·
      rfl
theorem tldT_all(l:List VertM):∀ bs:List BlkM,(toldAll l bs).map (·.text)=seenAll l bs
 | []=>by rw [toldAll_nil,seenAll_nil];rfl
 | b :: r=>by rw [toldAll_cons,seenAll_cons,List.map_append,tldT_one l b,tldT_all l r]
theorem tldT_join(l:List VertM)(m:ByteArray)(f:Bool):∀ bs:List BlkM,(toldJoin l m f bs).map (·.text)=seenJoin l m f bs
 | []=>by rw [toldJoin_nil,seenJoin_nil];rfl
 | b :: r=>by
  rw [toldJoin_cons,seenJoin_cons,List.map_append,List.map_append,tldT_one l b,tldT_join l m false r]
  cases f <;> rfl
end
/-- blocks as block.Of makes them: of four kinds, a line without parts, each number that of a line -/
inductive OkB (n:Nat):BlkM→Prop
 | line {i:Nat}:i<n→OkB n (.mk 1 (i:Int) [])
 | more {k:Int} {s:List BlkM}:(k=2∨k=3∨k=4)→0<n→(∀ b∈s,OkB n b)→OkB n (.mk k 0 s)
theorem okB_line{n i:Nat}(h:i<n):OkB n (lineB i):=.line h
theorem pieceM_ok{R:List (Nat × Nat)}{n:Nat}{F:List Nat→List BlkM}{p:List Nat}(hp:∀ i∈p,i<n)(h0:0<p.length)(hF:∀ t:List Nat,(∀ i∈t,i<n)→t.length<p.length→∀ b∈F t,OkB n b):OkB n (pieceM R F p):=by
 have hn:0<n:=by
  cases p with
  | nil=>cases h0
  | cons a r=>exact Nat.lt_of_le_of_lt (Nat.zero_le a) (hp a (List.mem_cons_self ..))
 unfold pieceM
 split
 ·
  rename_i h1
  refine okB_line (hp _ ?_)
  rw [List.getD_eq_getElem?_getD,List.getElem?_eq_getElem (by omega)]
  exact List.getElem_mem _
 ·
  split
  ·
   refine .more (.inr (.inl rfl)) hn fun b hb => ?_
   obtain⟨i,hi,rfl⟩:=List.mem_map.1 hb
   exact okB_line (hp i hi)
  ·
   rename_i h2
   refine .more (.inl rfl) hn fun b hb => ?_
   obtain⟨s,hs,rfl⟩:=List.mem_map.1 hb
   refine .more (.inr (.inr rfl)) hn fun c hc => ?_
   refine hF (thingsM p s) (fun i hi => ?_) (by rw [things_len];exact sides_less h2 hs) c hc
   unfold thingsM at hi
   obtain⟨k,hk,rfl⟩:=List.mem_map.1 hi
   obtain⟨h,hh,rfl⟩:=List.mem_map.1 hs
   have hkl:=(mem_sideM.1 hk).right
   rw [List.getD_eq_getElem?_getD,List.getElem?_eq_getElem hkl]
   exact hp _ (List.getElem_mem _)
theorem pieces_in(R:List (Nat × Nat))(t:List Nat):∀ k,k≤t.length→∀ p∈(piecesTo R t k).1,∀ i∈p,i∈t
 | 0,_=>fun p hp=>by rw [pieces_zero] at hp;cases hp
 | k+1,hk=>fun p hp i hi=>by
  unfold piecesTo at hp
  simp only at hp
  split at hp
  ·
   rcases List.mem_append.1 hp with hp|hp
   ·
    exact pieces_in R t k (by omega) p hp i hi
   ·
    rw [List.mem_singleton.1 hp] at hi
    exact List.mem_of_mem_take (List.mem_of_mem_drop hi)
  ·
   exact pieces_in R t k (by omega) p hp i hi
theorem blk_ok(R:List (Nat × Nat)){n:Nat}:∀(f:Nat) (t:List Nat),(∀ i∈t,i<n)→∀ b∈blkM R f t,OkB n b
 | 0,t,_=>fun b hb=>by rw [blkM] at hb;cases hb
 | f+1,t,ht=>fun b hb=>by
  rw [blkM] at hb
  obtain⟨p,hp,rfl⟩:=List.mem_map.1 hb
  unfold piecesM at hp
  refine pieceM_ok (fun i hi=>ht i (pieces_in R t _ (Nat.le_refl _) p hp i hi)) ((pieces_sum R t t.length (Nat.le_refl _)).2 p hp).1 fun u hu _=>blk_ok R f u hu
end Go.Proofs.YtanfebljiblhbaaGreatDoor
