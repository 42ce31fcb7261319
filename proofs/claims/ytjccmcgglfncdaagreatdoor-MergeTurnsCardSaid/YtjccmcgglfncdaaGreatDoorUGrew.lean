/- What is proved: MergeTurns, for every input; of the listed tables the walk needs the powers of ten. -/
import Derived.Test.YtjccmcgglfncdaaGreatDoorURefs
import Derived.Shelf.SlSortCmp.NoneTotal
set_option linter.unusedVariables false
set_option linter.unusedSimpArgs false
namespace Go.Proofs.YtjccmcgglfncdaaGreatDoor
open Go Go.RowKit
variable{ρ:Go.Shelf.Ren}{B cap g:Nat}{P:Program}{e:TypeId}{w w1:World}
def Grew(w w':World):Prop:=∃ q os,w'=Go.Sort.grow (w.drewN q) os
theorem Grew.refl(w:World):Grew w w:=⟨0,#[],by simp [drewN_zero]⟩
theorem Grew.trans{w2:World}(h:Grew w w1)(h':Grew w1 w2):Grew w w2:=by
 obtain⟨q,os,rfl⟩:=h;obtain⟨q',os',rfl⟩:=h';refine⟨q+q',os++os',?_⟩;have:(Go.Sort.grow (w.drewN q) os).drewN q'=Go.Sort.grow (w.drewN (q+q')) os:=by simp [Go.Sort.grow,World.drewN,Nat.add_assoc]
 rw [this,Go.Sort.grow_grow]
theorem Grew.alloc(h:Grew w w1)(o:Obj):Grew w (w1.alloc o):=h.trans ⟨0,#[o],by rw [drewN_zero,Go.Sort.alloc_eq_grow]⟩
theorem Grew.drew(h:Grew w w1):Grew w w1.drew:=h.trans ⟨1,#[],by rw [Go.Sort.grow_empty];rfl⟩
theorem Grew.below(h:Grew w w1):Be w w1:=by obtain⟨q,os,rfl⟩:=h;exact⟨rfl,rfl,rfl,by simp,fun k hk=>by rw [Go.Sort.heap_grow_old _ _ (by simpa using hk)];rfl⟩
def GrewT(w:World):Type:={w':World // Grew w w'}
instance (w:World):Nonempty (GrewT w):=⟨⟨w,Grew.refl _⟩⟩
def IsGrew(w:World):World→Prop:=fun w'=>∃ x:GrewT w,w'=x.1
theorem isGrew_of{w':World}(h:Grew w w'):IsGrew w w':=⟨⟨w',h⟩,rfl⟩
@[go_sem] theorem isGrew_all  {p:World→Prop}:(∀ w',IsGrew w w'→p w')↔∀ x:GrewT w,p x.1:=⟨fun h x=>h _ ⟨x,rfl⟩,fun h w' ⟨x,hx⟩=>hx▸h x⟩
@[simp,go_sem] theorem grew_cell  (x:GrewT w) {a:Addr} (h:a.block<w.heap.size):World.cell? x.1 a=w.cell? a:=x.2.below.cell h
@[simp,go_sem] theorem grew_frozen  (x:GrewT w) {a:Addr} (h:a.block<w.heap.size):World.frozen? x.1 a=w.frozen? a:=x.2.below.frozen h
section
variable {α : Type} [Inhabited α] {enc : α → List Value} {k : Nat}
theorem flatK_list(hk:∀ x,(enc x).length=k)(xs:List α):(Go.Sort.flatK enc k xs.toArray).toList=xs.flatMap enc:=by
 apply List.ext_getElem?;intro t;rw [Array.getElem?_toList]
 by_cases ht:t<xs.length*k
 ·
  have k0:0<k:=by
    rcases Nat.eq_zero_or_pos k with h|h;· subst h;simp at ht
    exact h
  have hq:t / k<xs.length:=(Nat.div_lt_iff_lt_mul k0).2 ht;have hr:t % k<k:=Nat.mod_lt _ k0;have h1:=flat_get hk xs (t / k) (t % k) xs[t / k] (List.getElem?_eq_getElem hq) hr;rw [show t / k*k+t % k=t by rw [Nat.mul_comm];exact Nat.div_add_mod t k] at h1;rw [h1];have h2:=Go.Sort.get_flatK enc k xs.toArray t (by simpa using ht);rw [Array.getElem?_eq_getElem (by simpa using ht)];rw [getElem!_pos _ t (by simpa using ht)] at h2;rw [h2];have h3:xs.toArray[t / k]! = xs[t / k]:=by rw [getElem!_pos _ _ (by simpa using hq)];simp
  rw [h3,getElem!_pos _ _ (by rw [hk];exact hr),List.getElem?_eq_getElem (by rw [hk];exact hr)]
 rw [Array.getElem?_eq_none (by simpa using ht),List.getElem?_eq_none (by rw [flat_len hk];omega)]
theorem flatK_toArray(hk:∀ x,(enc x).length=k)(d:Array α):Go.Sort.flatK enc k d=(d.toList.flatMap enc).toArray:=by rw [← flatK_list hk d.toList]
theorem putCells_row(xs ys junk:List Value)(h:xs.length=ys.length):Go.Sort.putCells id 0 ys.toArray (xs++junk).toArray=(ys++junk).toArray:=by
 apply Array.ext_getElem?;intro t;unfold Go.Sort.putCells;rw [Array.getElem?_mapIdx]
 by_cases h1:t<ys.length
 · rw [List.getElem?_toArray,List.getElem?_append_left (by omega),List.getElem?_toArray,List.getElem?_append_left h1,List.getElem?_eq_getElem (by omega),List.getElem?_eq_getElem h1];simp [h1]
 rw [List.getElem?_toArray,List.getElem?_append_right (by omega),List.getElem?_toArray,List.getElem?_append_right (by omega),h];simp [h1]
theorem OwnAt.holdsK(hk:∀ x,(enc x).length=k){xs:List α}(h:OwnAt w B e k g xs.length cap (xs.flatMap enc)):Go.Sort.HoldsK enc k w g 0 xs.toArray:=by
 intro j hj;rw [Nat.zero_add];refine⟨?_,h.free j⟩;rw [flatK_toArray hk] at hj ⊢;refine h.cell ?_;have hj':j<(xs.flatMap enc).length:=by simpa using hj
 rw [List.getElem?_eq_getElem hj'];congr 1;have:=getElem!_pos (List.flatMap enc xs.toArray.toList).toArray j hj;rw [id,this];simp
theorem OwnAt.sorted(hk:∀ x,(enc x).length=k){xs:List α}(h:OwnAt w B e k g xs.length cap (xs.flatMap enc))(n:Nat)(d':Array α)(hd:d'.size=xs.length)(os:Array Obj) :
  OwnAt (Go.Proofs.sortWorldK enc k w g 0 n d' os) B e k g xs.length cap (d'.toList.flatMap enc)∧w.grownBy (Go.Proofs.sortWorldK enc k w g 0 n d' os) (some g):=by
 have hlt:=h.lt;obtain⟨junk,h1,h2⟩:=h.at';have hl:(xs.flatMap enc).length=(d'.toList.flatMap enc).length:=by rw [flat_len hk,flat_len hk];simp [hd]
 have hheap:(Go.Sort.putRowK enc k (Go.Sort.ahead w n) g 0 d').heap[g]? = some (.cells (d'.toList.flatMap enc++junk).toArray e (0,0)):=by unfold Go.Sort.putRowK Go.Sort.putRow Go.Sort.mapBlock;rw [flatK_toArray hk];simp only [Array.getElem?_modify,if_pos];have:(Go.Sort.ahead w n).heap=w.heap:=rfl;rw [this,h1];simp only [Option.map_some,Go.Sort.onCells];rw [putCells_row _ _ _ hl]
 refine⟨⟨⟨junk,?_,?_⟩,by rw [← hl];exact h.len,h.base,h.nc,h.cm⟩,?_⟩
 · unfold Go.Proofs.sortWorldK;rw [Go.Sort.heap_grow_old _ _ (by simp [Go.Sort.putRowK,Go.Sort.putRow,Go.Sort.mapBlock];exact hlt)];exact hheap
 · rw [List.length_append,← hl,← List.length_append];exact h2
 refine⟨rfl,rfl,rfl,by simp [Go.Proofs.sortWorldK,Go.Sort.putRowK,Go.Sort.putRow,Go.Sort.mapBlock,Go.Sort.ahead],fun i hi hne => ?_⟩;unfold Go.Proofs.sortWorldK;rw [Go.Sort.heap_grow_old _ _ (by simp [Go.Sort.putRowK,Go.Sort.putRow,Go.Sort.mapBlock];exact hi)];unfold Go.Sort.putRowK Go.Sort.putRow Go.Sort.mapBlock;simp only [Array.getElem?_modify];rw [if_neg (fun e=>hne (by rw [e]))];rfl
def SortRes(cf:α→α→Int)(enc:α→List Value)(k:Nat)(e:TypeId)(w:World)(B g cap:Nat)(xs:List α)(r:Ending)(w':World):Prop:=
 r=.returned (.tuple #[])∧∃ ys:List α,ys.Perm xs∧(ys.Pairwise fun a b=>¬ cf b a<0)∧OwnAt w' B e k g xs.length cap (ys.flatMap enc)∧w.grownBy w' (some g)
theorem sortRes_of(hk:∀ x,(enc x).length=k){cf:α→α→Int}{xs:List α}(h:OwnAt w B e k g xs.length cap (xs.flatMap enc)){f:Nat}{args:Array Value}
  (hc:Calls P f args w fun r w'=>r=.returned (.tuple #[])∧∃ d' n os,Go.Sort.PermIn 0 xs.toArray.size xs.toArray d'∧Go.Sort.SortedIn (Go.Proofs.ltOf cf) 0 xs.toArray.size d'∧w'=Go.Proofs.sortWorldK enc k w g 0 n d' os):Calls P f args w (SortRes cf enc k e w B g cap xs):=by
 rw [List.size_toArray] at hc;refine hc.mono fun r w' ⟨he,d',n,os,hp,hs,hw⟩=>⟨he,d'.toList,?_,?_,?_⟩
 ·
  obtain⟨p1,_,p3⟩:=hp;have hsz:d'.size=xs.length:=by simpa using p1
  have e1:(xs.toArray.extract 0 xs.toArray.size).toList=xs:=by simp
  have e2:(d'.extract 0 xs.toArray.size).toList=d'.toList:=by simp [← hsz]
  simp only [List.size_toArray] at p3 e1 e2;rw [e1,e2] at p3;exact p3
 ·
  rw [List.pairwise_iff_getElem];intro i j hi hj hij;have hsz:d'.size=xs.length:=by simpa using hp.1
  have:=hs i j (Nat.zero_le _) hij (by simp at hj;omega);unfold Go.Proofs.ltOf at this;rw [getElem!_pos d' j (by simpa using hj),getElem!_pos d' i (by simpa using hi)] at this;simpa using this
 obtain⟨a,b⟩:=h.sorted hk n d' (by simpa using hp.1) os;rw [hw];exact⟨a,b⟩
theorem sortF_any(L:Go.Proofs.SlLaysF0.n6 P ρ)(aE:∀ w,(isAgg (ρ.t 24)).run P w=.ok true w)(zE:∀ w,(Go.sizeOf (ρ.t 24)).run P w=.ok k w)(hk:∀ x,(enc x).length=k)(h1:∀ x,∀ v∈enc x,v.oneCell'=true)
  (cf:α→α→Int) (hO:Go.Sort.SWO (Go.Proofs.ltOf cf)) (fn:Nat) (eg:∀ args w,(callFunc fn args).run P w=.ok (.enter fn args) w)
  (hcmp:∀ x y W,Calls P fn #[.agg (enc x).toArray,.agg (enc y).toArray] W fun e w'=>e=.returned (.int .i64 (cf x y))∧Grew W w')
     {xs:List α} (h:OwnAt w B e k g xs.length cap (xs.flatMap enc)) (hn:xs.length<4611686018427387904) :
  Calls P (ρ.f 6) #[.slice (some ⟨g,0,none⟩) xs.length cap,.func (.func fn) #[] #[]] w (SortRes cf enc k e w B g cap xs):=by have hc:=AnyQ.slices_SortFunc L k aE zE enc hk h1 cf hO fn #[] g 0 cap xs.toArray w eg (fun m os dk _ x y=>(hcmp x y _).mono fun _ _ ⟨he,q,os',hw⟩=>⟨he,q,os',hw⟩) (h.holdsK hk) h.lt (by simpa using hn);exact sortRes_of hk h hc
theorem sort14_any(L:Go.Proofs.SlLaysF0.n14 P ρ)(aE:∀ w,(isAgg (ρ.t 24)).run P w=.ok true w)(zE:∀ w,(Go.sizeOf (ρ.t 24)).run P w=.ok k w)(hk:∀ x,(enc x).length=k)(h1:∀ x,∀ v∈enc x,v.oneCell'=true)
  (cf:α→α→Int) (hO:Go.Sort.SWO (Go.Proofs.ltOf cf)) (fn:Nat) (eg:∀ args w,(callFunc fn args).run P w=.ok (.enter fn args) w)
  (hcmp:∀ x y W,Calls P fn #[.agg (enc x).toArray,.agg (enc y).toArray] W fun e w'=>e=.returned (.int .i64 (cf x y))∧Grew W w')
     {xs:List α} (h:OwnAt w B e k g xs.length cap (xs.flatMap enc)) (hn:xs.length<4611686018427387904) :
  Calls P (ρ.f 14) #[.slice (some ⟨g,0,none⟩) xs.length cap,.int .i64 0,.int .i64 xs.length,.int .i64 (Lib.bitLen xs.length:Nat),.func (.func fn) #[] #[]] w (SortRes cf enc k e w B g cap xs):=by
 have hlim:Lib.bitLen xs.length<4611686018427387904:=Nat.lt_of_le_of_lt (Lib.bitLen_le xs.length 62 (by omega) (by omega)) (by omega);have hsz:xs.toArray.size=xs.length:=by simp
 have hp:=AnyQ.pdqsortCmpFunc_all L k aE zE enc cf fn #[] hO g 0 cap xs.toArray w eg (fun m os dk _ x y=>(hcmp x y _).mono fun _ _ ⟨he,q,os',hw⟩=>⟨he,q,os',hw⟩) ⟨hk,h1,h.holdsK hk,h.lt⟩ (xs.length+1) 0 xs.length (Lib.bitLen xs.length) xs.toArray w (by omega) hsz (Go.Proofs.SWK.start (h.holdsK hk)) (Nat.zero_le _) (by rw [hsz];exact Nat.le_refl _) (by rw [hsz];omega) hlim (Or.inl rfl);rw [hsz] at hp;refine sortRes_of hk h (hp.mono fun r w' ⟨he,n,os,hw⟩ => ?_);have hs:=Go.Sort.pdq_sorts (Go.Proofs.ltOf cf) hO xs.toArray 0 xs.length (Lib.bitLen xs.length) true true (Nat.zero_le _) (by rw [hsz];exact Nat.le_refl _) (Or.inl rfl);exact⟨he,_,n,os,by rw [hsz];exact hs.1,by rw [hsz];exact hs.2,hw⟩
theorem sortF_none(L:Go.Proofs.SlLaysF0.n6 P ρ)(p:Option Addr)(cap:Nat)(fv:Value)(w:World):Calls P (ρ.f 6) #[.slice p 0 cap,fv] w fun e w'=>e=.returned (.tuple #[])∧w'=w:=
 AnyF.slices_SortFunc_none L p cap fv w
theorem swo_key{α:Type}(key:α→Nat)(cf:α→α→Int)(h:∀ x y,(cf x y<0)=(key x<key y)):Go.Sort.SWO (Go.Proofs.ltOf cf) where
 irrefl x:=by unfold Go.Proofs.ltOf;simp [h]
 trans x y z h1 h2:=by unfold Go.Proofs.ltOf at *;simp [h] at *;omega
 ntrans x y z h1 h2:=by unfold Go.Proofs.ltOf at *;simp [h] at *;omega
end
end Go.Proofs.YtjccmcgglfncdaaGreatDoor
