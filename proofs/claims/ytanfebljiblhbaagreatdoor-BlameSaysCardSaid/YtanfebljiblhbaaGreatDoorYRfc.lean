/- Part of the proof that of any graph each file's lines, whose they are, and how many lines any author has, are as the document says. No conditions. -/
import Derived.RangeFuncNested
import Derived.RangeFuncBound
import Derived.RangeFuncLeaves
import Derived.Below
set_option linter.unusedVariables false
set_option linter.unusedSimpArgs false
namespace Go.Proofs.YtanfebljiblhbaaGreatDoor
open Go Go.RowKit
variable{α:Type}
structure MidOut (O:Nat→Prop) (A B:World):Prop where
 os:B.os=A.os
 tape:B.tape=A.tape
 output:B.output=A.output
 size:A.heap.size≤B.heap.size
 block:∀ k,k<A.heap.size→¬ O k→B.heap[k]? = A.heap[k]?
structure MidIn (O:Nat→Prop) (A B:World):Prop where
 os:B.os=A.os
 tape:B.tape=A.tape
 output:B.output=A.output
 size:A.heap.size≤B.heap.size
 block:∀ k,O k→B.heap[k]? = A.heap[k]?
section
variable {O O' : Nat → Prop} {A B C : World}
theorem MidIn.refl(O:Nat→Prop)(A:World):MidIn O A A:=⟨rfl,rfl,rfl,Nat.le_refl _,fun _ _=>rfl⟩
theorem MidIn.trans(h:MidIn O A B)(k:MidIn O B C):MidIn O A C:=
 ⟨k.os.trans h.os,k.tape.trans h.tape,k.output.trans h.output,Nat.le_trans h.size k.size,fun i hi=>(k.block i hi).trans (h.block i hi)⟩
theorem MidIn.mono(h:MidIn O A B)(hs:∀ k,O' k→O k):MidIn O' A B:=⟨h.os,h.tape,h.output,h.size,fun i hi=>h.block i (hs i hi)⟩
theorem MidOut.trans(h:MidOut O A B)(k:MidOut O B C):MidOut O A C:=
 ⟨k.os.trans h.os,k.tape.trans h.tape,k.output.trans h.output,Nat.le_trans h.size k.size,fun i hi hd=>(k.block i (Nat.lt_of_lt_of_le hi h.size) hd).trans (h.block i hi hd)⟩
theorem MidOut.mono(h:MidOut O A B)(hs:∀ k,O k→O' k):MidOut O' A B:=⟨h.os,h.tape,h.output,h.size,fun i hi hk=>h.block i hi (fun q=>hk (hs i q))⟩
theorem MidOut.of_grown{row:Option Nat}(h:A.grownBy B row)(hr:∀ r,row=some r→O r):MidOut O A B:=
 ⟨h.os,h.tape,h.output,h.size,fun i hi hk=>h.block i hi (fun e=>hk (hr i e.symm))⟩
theorem MidOut.of_below(h:Below A.heap.size A B):MidOut O A B:=⟨h.os,h.tape,h.output,h.size,fun i hi _=>h.block i hi⟩
theorem MidIn.of_grown{row:Option Nat}(h:A.grownBy B row)(hs:∀ k,O k→k<A.heap.size)(hr:∀ r,row=some r→¬ O r):MidIn O A B:=
 ⟨h.os,h.tape,h.output,h.size,fun i hi=>h.block i (hs i hi) (fun e=>hr i e.symm hi)⟩
theorem MidIn.of_below(h:Below A.heap.size A B)(hs:∀ k,O k→k<A.heap.size):MidIn O A B:=⟨h.os,h.tape,h.output,h.size,fun i hi=>h.block i (hs i hi)⟩
end
def SeqMid(P:Program)(g:Nat)(lb:Array Value)(encs:α→Array Value)(xs:List α)(w:World):Prop:=
 ∀(l m:Nat) (J Jx:(Nat→Prop)→List α→World→Prop) (W:World),Below w.heap.size w W →
  (∀ O B,(∀ k,O k→W.heap.size≤k∧k<B.heap.size)→Below W.heap.size W B→J O [] B) →
  (∀ O O' pre A B,J O pre A→MidOut O A B→(∀ k,O' k→(O k∨A.heap.size≤k)∧k<B.heap.size)→J O' pre B) →
  (∀ O O' pre A B,Jx O pre A→MidOut O A B→(∀ k,O' k→(O k∨A.heap.size≤k)∧k<B.heap.size)→Jx O' pre B) →
  (∀ O (m':Nat) pre x rest A,xs=pre++x :: rest→(∀ k,O k→W.heap.size≤k∧k<A.heap.size)→J O pre A →
   YieldAt Fence.wide m' P l (encs x) A fun e B =>
    (e=.returned (.bool true)∧J O (pre++[x]) B∧MidIn O A B)∨(e=.returned (.bool false)∧Jx O (pre++[x]) B∧MidIn O A B)) →
  CallsIn Fence.wide m P g (#[.func (.yield l) #[] #[]]++lb) W fun e B=>(∃ v,e=.returned v) ∧
   ∃ O,(∀ k,O k→W.heap.size≤k∧k<B.heap.size)∧(J O xs B∨∃ pre,pre <+: xs∧Jx O pre B)
def midPost(O:Nat→Prop)(I:(Nat→Prop)→List α→World→Prop)(Ix:Code→(Nat→Prop)→List α→World→Prop)(xs:List α)(W:World):Exit→Act→World→Prop
 | .normal,_,W'=>MidIn O W W'∧I O xs W'
 | .ret,_,W'=>MidIn O W W'∧Ix .ret O xs W'
 | .exit id,_,W'=>MidIn O W W'∧Ix (.exit id) O xs W'
 | .goto t,_,W'=>MidIn O W W'∧Ix (.goto t) O xs W'
 | .panic _,_,_=>False
 | .outgrown,_,_=>False
theorem wpIn_rangeFunc_mid{P:Program}{n:Nat}{g:Operand}{ps:Array Tmp}{assign body:Code}{Q:Exit→Act→World→Prop}{a:Act}{w:World}
  {gf:Nat} {lb:Array Value} (hg:a.eval g=.func (.func gf) #[] lb) (eg:∀ args w,(callFunc gf args).run P w=.ok (.enter gf args) w)
  {encs:α→Array Value} {xs:List α} {w0:World} (hseq:SeqMid P gf lb encs xs w0) (hb0:Below w0.heap.size w0 w) (hps:∀ x,(encs x).size=ps.size)
  (I:(Nat→Prop)→List α→World→Prop) (Ix:Code→(Nat→Prop)→List α→World→Prop)
  (hI:∀ O O' pre A B,I O pre A→MidOut O A B→(∀ k,O' k→(O k∨A.heap.size≤k)∧k<B.heap.size)→I O' pre B)
  (hIx:∀ c O O' pre A B,Ix c O pre A→MidOut O A B→(∀ k,O' k→(O k∨A.heap.size≤k)∧k<B.heap.size)→Ix c O' pre B)
  (h0:∀ O B,(∀ k,O k→w.heap.size≤k∧k<B.heap.size)→Below w.heap.size w B→I O [] B)
  (Ax:(Nat→Prop)→α→Act→World→Prop) (hAx:∀ O x a' A B,Ax O x a' A→MidOut O A B→Ax O x a' B)
  (hassign:∀(l m:Nat) (O:Nat→Prop) (pre:List α) (x:α) (W:World) (K:Act→World→Prop),(∀ k,O k→w.heap.size≤k∧k<W.heap.size)→I O pre W→(∀ a' W',MidIn O W W'→I O pre W'→Ax O x a' W'→K a' W') →
   assign.wpIn (Fence.wide.inRound l) m P (Exit.then K (fun _ _ _=>False)) {tmps:=(ps.zip (encs x)).foldl (fun t (p,v)=>t.setIfInBounds p v) a.tmps,defers:=[]} W)
  (hbody:∀(l m:Nat) (O:Nat→Prop) (pre:List α) (x:α) (rest:List α) (W:World),xs=pre++x :: rest→(∀ k,O k→w.heap.size≤k∧k<W.heap.size)→I O pre W→∀ a',Ax O x a' W →
   body.wpIn (Fence.wide.inRound l) m P (midPost O I Ix (pre++[x]) W) a' W)
  (hdone:∀(O:Nat→Prop) (W:World),(∀ k,O k→w.heap.size≤k∧k<W.heap.size)→I O xs W→O w.heap.size→W.heap[w.heap.size]? = some (.deferred (some []))→Q .normal {a with defers:={target:=.collected w.heap.size,args:=#[]} :: a.defers} W)
  (hstop:∀(c:Code) (O:Nat→Prop) (pre:List α) (W:World),(∀ k,O k→w.heap.size≤k∧k<W.heap.size)→pre <+: xs→Ix c O pre W→O w.heap.size→W.heap[w.heap.size]? = some (.deferred (some [])) →
   c.wpIn Fence.wide n P Q {a with defers:={target:=.collected w.heap.size,args:=#[]} :: a.defers} W) :
  (Code.rangeFunc g ps assign body).wpIn Fence.wide n P Q a w:=by
 refine wpIn_rangeFunc ?_
 intro fn hfn
 rw [show Fence.wide.round=none from rfl]
 obtain⟨rec,hrec⟩:∃ rec:LoopState→Option Code→Loop,rec=fun st pe=>{state:=st,pending:=pe,fn,tmps:=a.tmps,params:=ps,assign,body,defers:=w.heap.size}:=⟨_,rfl⟩
 obtain⟨W1,hW1⟩:∃ W1,(w.alloc (.deferred (some []))).alloc (.loop (rec .ready none))=W1:=⟨_,rfl⟩
 have hS1:W1.heap.size=w.heap.size+2:=by rw [← hW1];simp
 have hL1:W1.heap[w.heap.size+1]? = some (.loop (rec .ready none)):=by rw [← hW1];have:=World.alloc_heap_new (w.alloc (.deferred (some []))) (.loop (rec .ready none));rwa [World.size_alloc] at this
 have hK1:W1.heap[w.heap.size]? = some (.deferred (some [])):=by rw [← hW1];exact(Below.heap_alloc _ _ _ (by simp)).trans (World.alloc_heap_new w _)
 have hbw:Below w.heap.size w W1:=by rw [← hW1];exact((Below.refl _ w).alloc (Nat.le_refl _) _).alloc (by simp) _
 have hb1:Below w0.heap.size w0 W1:=hb0.trans (hbw.mono hb0.size)
 -- the blocks that the iterator has, and the loop's own two
 obtain⟨T,hT⟩:∃ T:(Nat→Prop)→Nat→Prop,T=fun O k=>O k∨k=w.heap.size∨k=w.heap.size+1:=⟨_,rfl⟩
 have hTO:∀ {O:Nat→Prop} {k:Nat},O k→T O k:=fun h=>by rw [hT];exact .inl h
 have hT0:∀ {O:Nat→Prop},T O w.heap.size:=fun {O}=>by rw [hT];exact .inr (.inl rfl)
 have hT1:∀ {O:Nat→Prop},T O (w.heap.size+1):=fun {O}=>by rw [hT];exact .inr (.inr rfl)
 have hTb:∀ {O:Nat→Prop} {X:World},(∀ k,O k→W1.heap.size≤k∧k<X.heap.size)→W1.heap.size≤X.heap.size→∀ k,T O k→w.heap.size≤k∧k<X.heap.size:=fun {O X} h hx k hk=>by
  rw [hT] at hk;rcases hk with hk|rfl|rfl
  · have:=h k hk;omega
  · omega
  omega
 have put:∀ {X:World} {o':Obj} {O:Nat→Prop} {pre:List α},(∀ k,T O k→w.heap.size≤k∧k<X.heap.size)→I (T O) pre X→I (T O) pre (X.putObj (w.heap.size+1) o'):=fun {X o' O pre} hb hi =>
  hI _ _ _ _ _ hi (MidOut.of_grown (grownBy_putObj' X _ o') (fun r e=>by cases e;exact hT1)) (fun k hk=>⟨.inl hk,by rw [World.putObj_size];exact(hb k hk).2⟩)
 have putx:∀ {X:World} {o':Obj} {O:Nat→Prop} {pre:List α} {c:Code},(∀ k,T O k→w.heap.size≤k∧k<X.heap.size)→Ix c (T O) pre X→Ix c (T O) pre (X.putObj (w.heap.size+1) o'):=fun {X o' O pre c} hb hi =>
  hIx _ _ _ _ _ _ hi (MidOut.of_grown (grownBy_putObj' X _ o') (fun r e=>by cases e;exact hT1)) (fun k hk=>⟨.inl hk,by rw [World.putObj_size];exact(hb k hk).2⟩)
 have grow:∀ {O O':Nat→Prop} {A B:World},(∀ k,O' k→(O k∨A.heap.size≤k)∧k<B.heap.size)→W1.heap.size≤B.heap.size→∀ k,T O' k→(T O k∨A.heap.size≤k)∧k<B.heap.size:=fun {O O' A B} h hB k hk=>by
  rw [hT] at hk;rcases hk with hk|rfl|rfl
  · exact⟨(h k hk).1.imp hTO id,(h k hk).2⟩
  · exact⟨.inl hT0,by omega⟩
  exact⟨.inl hT1,by omega⟩
 refine⟨w.heap.size+1,[{target:=.collected w.heap.size,args:=#[]}],W1,{target:=.fn (.func gf) lb,args:=#[.func (.yield (w.heap.size+1)) #[] #[]]},W1,gf,
  #[.func (.yield (w.heap.size+1)) #[] #[]]++lb,W1,?_,?_,?_,?_,fun h=>(by cases h),?_⟩
 · rw [← hW1,hrec];exact run_enterLoop_outer _ _ _ _ _
 ·
  simp only [resolve,hg]
  simp [go_sem]
 · intro f' hf';trivial
 · simp [invoke,go_sem,eg]
 refine(hseq (w.heap.size+1) (n - 1)
  (fun O pre W=>I (T O) pre W∧W.heap[w.heap.size+1]? = some (.loop (rec .ready none))∧W.heap[w.heap.size]? = some (.deferred (some []))∧W1.heap.size≤W.heap.size∧(∀ k,O k→W1.heap.size≤k))
  (fun O pre W=>∃ c,Ix c (T O) pre W∧W.heap[w.heap.size+1]? = some (.loop (rec .done (some c)))∧W.heap[w.heap.size]? = some (.deferred (some []))∧W1.heap.size≤W.heap.size∧(∀ k,O k→W1.heap.size≤k))
  W1 hb1
  (fun O B h2 hb=>⟨h0 _ B (hTb h2 hb.size) (hbw.trans (hb.mono (by omega))),(hb.block _ (by omega)).trans hL1,(hb.block _ (by omega)).trans hK1,hb.size,fun k hk=>(h2 k hk).1⟩)
  (fun O O' pre A B h ho hn=>⟨hI _ _ pre A B h.1 (ho.mono (fun _ q=>hTO q)) (grow hn (Nat.le_trans h.2.2.2.1 ho.size)),(ho.block _ (by have:=h.2.2.2.1;omega) (fun q=>by have:=h.2.2.2.2 _ q;omega)).trans h.2.1,(ho.block _ (by have:=h.2.2.2.1;omega) (fun q=>by have:=h.2.2.2.2 _ q;omega)).trans h.2.2.1,Nat.le_trans h.2.2.2.1 ho.size,
   fun k hk=>(hn k hk).1.elim (h.2.2.2.2 k) (fun q=>Nat.le_trans h.2.2.2.1 q)⟩)
  (fun O O' pre A B h ho hn=>by
   obtain⟨c,h⟩:=h;exact⟨c,hIx c _ _ pre A B h.1 (ho.mono (fun _ q=>hTO q)) (grow hn (Nat.le_trans h.2.2.2.1 ho.size)),(ho.block _ (by have:=h.2.2.2.1;omega) (fun q=>by have:=h.2.2.2.2 _ q;omega)).trans h.2.1,(ho.block _ (by have:=h.2.2.2.1;omega) (fun q=>by have:=h.2.2.2.2 _ q;omega)).trans h.2.2.1,Nat.le_trans h.2.2.2.1 ho.size,
    fun k hk=>(hn k hk).1.elim (h.2.2.2.2 k) (fun q=>Nat.le_trans h.2.2.2.1 q)⟩)
  ?_).mono ?_
 rotate_left
 ·
  -- behind the iterator
  rintro e W2 ⟨⟨v,rfl⟩,O,hO,(⟨hi,hl,hk,hsz,_⟩|⟨pre,hSp,c,hi,hl,hk,hsz,_⟩)⟩
  · exact⟨none,_,by have:=run_endLoop (P:=P) hl (by rw [hrec];simp);rw [hrec] at this;exact this,hdone (T O) _ (by rw [World.putObj_size];exact hTb hO hsz) (put (hTb hO hsz) hi) hT0 ((World.putObj_heap_other (by omega)).trans hk)⟩
  exact⟨some c,_,by have:=run_endLoop (P:=P) hl (by rw [hrec];simp);rw [hrec] at this;exact this,hstop c (T O) pre _ (by rw [World.putObj_size];exact hTb hO hsz) hSp (putx (hTb hO hsz) hi) hT0 ((World.putObj_heap_other (by omega)).trans hk)⟩
 -- one round
 rintro O m' pre x rest W hx hO ⟨hi,hl,hk,hsz,_⟩
 have hlt:w.heap.size+1<W.heap.size:=(Array.getElem?_eq_some_iff.1 hl).1
 have hy:=run_yield (P:=P) (args:=encs x) hl (by rw [hrec];exact hps x)
 rw [hrec] at hy
 have hTW0:=hTb hO hsz
 refine⟨fn,_,assign,body,hy,roundIn_of_wpIn hfn (hassign _ m' (T O) pre x W _ hTW0 hi ?_)⟩
 clear hy
 intro a' Wa hma hia hax
 have hl0:=hl
 have hO0:=hO
 replace hl:=(hma.block _ hT1).trans hl
 replace hk:=(hma.block _ hT0).trans hk
 replace hlt:w.heap.size+1<Wa.heap.size:=(Array.getElem?_eq_some_iff.1 hl).1
 replace hO:∀ k,O k→W1.heap.size≤k∧k<Wa.heap.size:=fun k q=>⟨(hO k q).1,Nat.lt_of_lt_of_le (hO k q).2 hma.size⟩
 replace hsz:=Nat.le_trans hsz hma.size
 replace hi:=hia
 clear hia
 have hmaO:MidIn O W Wa:=hma.mono (fun k q=>hTO q)
 clear hma hTW0 hl0 hO0
 revert hmaO
 generalize W=Wb
 intro hmaO
 obtain⟨W,rfl⟩:∃ W,W=Wa:=⟨_,rfl⟩
 refine⟨_,run_beginRound hl (by rw [hrec]),?_⟩
 have hTW:=hTb hO hsz
 have hnl:∀ r,some (w.heap.size+1)=some r→¬ O r:=fun r e q=>by cases e;have:=(hO _ q).1;omega
 have hl2:(W.putObj (w.heap.size+1) (.loop {rec .ready none with state:=.busy})).heap[w.heap.size+1]? = some (.loop {rec .ready none with state:=.busy}):=World.putObj_heap_same hlt
 have hk2:(W.putObj (w.heap.size+1) (.loop {rec .ready none with state:=.busy})).heap[w.heap.size]? = some (.deferred (some [])):=(World.putObj_heap_other (by omega)).trans hk
 have hw2:MidIn O W (W.putObj (w.heap.size+1) (.loop {rec .ready none with state:=.busy})):=MidIn.of_grown (grownBy_putObj' _ _ _) (fun k q=>(hO k q).2) hnl
 refine wpIn_mono (hbody _ m' (T O) pre x rest _ hx (by rw [World.putObj_size];exact hTW) (put hTW hi) a' (hAx _ _ _ _ _ hax (MidOut.of_grown (grownBy_putObj' _ _ _) (fun r e=>by cases e;exact hT1)))) ?_
 have fin:∀(jump:Option Code) (W3:World),MidIn (T O) (W.putObj (w.heap.size+1) (.loop {rec .ready none with state:=.busy})) W3 →
   (Instr.endRound (w.heap.size+1) jump).run P W3=.ok (.bool jump.isNone) (W3.putObj (w.heap.size+1) (.loop (rec (if jump.isNone then .ready else .done) jump))) ∧
   (∀ k,T O k→w.heap.size≤k∧k<W3.heap.size) ∧
   MidIn O W (W3.putObj (w.heap.size+1) (.loop (rec (if jump.isNone then .ready else .done) jump))) ∧
   (W3.putObj (w.heap.size+1) (.loop (rec (if jump.isNone then .ready else .done) jump))).heap[w.heap.size+1]? = some (.loop (rec (if jump.isNone then .ready else .done) jump)) ∧
   (W3.putObj (w.heap.size+1) (.loop (rec (if jump.isNone then .ready else .done) jump))).heap[w.heap.size]? = some (.deferred (some [])) ∧
   W1.heap.size≤(W3.putObj (w.heap.size+1) (.loop (rec (if jump.isNone then .ready else .done) jump))).heap.size∧(∀ k,O k→W1.heap.size≤k):=fun jump W3 hm3=>by have hl3:=(hm3.block _ hT1).trans hl2;have hk3:=(hm3.block _ hT0).trans hk2;have hs3:=hm3.size;rw [World.putObj_size] at hs3;have:=run_endRound (P:=P) jump hl3;rw [hrec] at this ⊢;refine⟨this,fun k q=>⟨(hTW k q).1,Nat.lt_of_lt_of_le (hTW k q).2 hs3⟩,?_,World.putObj_heap_same (Array.getElem?_eq_some_iff.1 hl3).1,(World.putObj_heap_other (by omega)).trans hk3,by rw [World.putObj_size];omega,fun k q=>(hO k q).1⟩;refine(hw2.trans ?_).trans (MidIn.of_grown (grownBy_putObj' _ _ _) (fun k q=>Nat.lt_of_lt_of_le (hO k q).2 hs3) hnl);exact hm3.mono (fun k q=>hTO q)
 rintro e a3 W3 hp
 cases e with
 | normal =>
  obtain⟨hm3,hi3⟩:=hp
  obtain⟨hr,hb3,hmi,hl4,hk4,hs4⟩:=fin none W3 hm3
  exact⟨_,_,hr,.inl ⟨rfl,⟨put hb3 hi3,hl4,hk4,hs4⟩,hmaO.trans hmi⟩⟩
 | ret =>
  obtain⟨hm3,hi3⟩:=hp
  obtain⟨hr,hb3,hmi,hl4,hk4,hs4⟩:=fin (some .ret) W3 hm3
  exact⟨_,_,hr,.inr ⟨rfl,⟨.ret,putx hb3 hi3,hl4,hk4,hs4⟩,hmaO.trans hmi⟩⟩
 | exit id =>
  obtain⟨hm3,hi3⟩:=hp
  obtain⟨hr,hb3,hmi,hl4,hk4,hs4⟩:=fin (some (.exit id)) W3 hm3
  exact⟨_,_,hr,.inr ⟨rfl,⟨.exit id,putx hb3 hi3,hl4,hk4,hs4⟩,hmaO.trans hmi⟩⟩
 | goto t =>
  obtain⟨hm3,hi3⟩:=hp
  obtain⟨hr,hb3,hmi,hl4,hk4,hs4⟩:=fin (some (.goto t)) W3 hm3
  exact⟨_,_,hr,.inr ⟨rfl,⟨.goto t,putx hb3 hi3,hl4,hk4,hs4⟩,hmaO.trans hmi⟩⟩
 | panic ch=>exact hp.elim
 | outgrown=>exact hp.elim
end Go.Proofs.YtanfebljiblhbaaGreatDoor
