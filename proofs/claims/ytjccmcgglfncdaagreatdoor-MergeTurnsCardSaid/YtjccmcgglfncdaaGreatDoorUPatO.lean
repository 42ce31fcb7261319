/- What is proved: MergeTurns, for every input; of the listed tables the walk needs the powers of ten. -/
import Derived.Test.YtjccmcgglfncdaaGreatDoorUDiffE
import Derived.SliceStrings
import Derived.Deep.Slices
import Derived.Deep.Fields
import Derived.ChangeSame
import Derived.ChangeSlices
import Derived.Test.YtjccmcgglfncdaaGreatDoorURefF
import Derived.Lib.LaidTab
set_option linter.unusedVariables false
set_option linter.unusedSimpArgs false
namespace Go.Proofs.YtjccmcgglfncdaaGreatDoor
open Go Go.ChangeShapes Go.WideShapes Go.Deep Go.RowKit
variable{sz:Nat}{α:Type}{e t:TypeId}{v:Value}
theorem flat_inv{enc:α→List Value}(hz:∀ x,(enc x).length=sz):∀ {l:List α} {j:Nat} {u:Value},(l.flatMap enc)[j]? = some u→∃ i r x,l[i]? = some x∧(enc x)[r]? = some u∧j=i*sz+r
 | [],j,u,h=>by simp at h
 | y :: l,j,u,h=>by
  rw [List.flatMap_cons] at h
  by_cases hj:j<sz
  · rw [List.getElem?_append_left (by rw [hz];exact hj)] at h;exact⟨0,j,y,rfl,h,by omega⟩
  rw [List.getElem?_append_right (by rw [hz];omega),hz] at h;obtain⟨i,r,x,h1,h2,h3⟩:=flat_inv hz h;refine⟨i+1,r,x,h1,h2,?_⟩;rw [Nat.add_mul];omega
theorem flat_size{enc:α→List Value}(hz:∀ x,(enc x).length=sz):∀(l:List α),(l.flatMap enc).length=l.length*sz
 | []=>by simp
 | y :: l=>by rw [List.flatMap_cons,List.length_append,hz,flat_size hz l,List.length_cons,Nat.add_mul];omega
theorem exists_list{p:Nat→α→Prop}:∀ {n:Nat},(∀ i,i<n→∃ x,p i x)→∃ l:List α,l.length=n∧∀ i x,l[i]? = some x→p i x
 | 0,_=>⟨[],rfl,fun i x h=>by simp at h⟩
 | n+1,h=>by
  obtain⟨l,hl,hp⟩:=exists_list (p:=p) (n:=n) fun i hi=>h i (by omega);obtain⟨x,hx⟩:=h n (by omega);refine⟨l++[x],by simp [hl],fun i y hy => ?_⟩
  by_cases hi:i<l.length
  · rw [List.getElem?_append_left hi] at hy;exact hp i y hy
  rw [List.getElem?_append_right (by omega)] at hy;have h0:i - l.length=0:=by have:=(List.getElem?_eq_some_iff.1 hy).1;simp at this;omega
  rw [h0] at hy;simp at hy;subst hy;rw [show i=n by omega];exact hx
section
variable {H : Type} {enc : TypeId × Value → H} {P : Program} {W : World} {base : Nat}
theorem row_of_cells{a:Addr}{n cap:Nat}{cs:List Value}(hl:cs.length=n*sz)(h1:n≤cap)(h2:cap≤maxLen)(hz:0<sz)(hc:∀ j u,cs[j]? = some u→W.cell? (a.add j)=some u):Row W (.slice (some a) n cap) n sz cs:=by
 refine⟨hl,_,cap,rfl,h1,h2,(fun h=>by cases h),fun h0 => ?_⟩;have hpos:0<cs.length:=by rw [hl];exact Nat.mul_pos (by omega) hz
 have hc0:=hc 0 cs[0] (by rw [List.getElem?_eq_getElem]);have hsp:=World.cell?_spot hc0;obtain⟨b,off,sp⟩:=a;simp only [Addr.add] at hsp;have hsp:sp=none:=by cases sp <;> simp_all
 subst hsp;have hb:b<W.heap.size:=by
  rcases Nat.lt_or_ge b W.heap.size with h'|h'
  · exact h'
  simp [World.cell?,Addr.add,Array.getElem?_eq_none h'] at hc0
 refine⟨b,off,rfl,hb,fun j u hu => ?_⟩;have:=hc j u hu
 rwa [Addr.add_lit] at this
theorem srow_of_trod(ht:P.underlying t=some (.slice e))(he:P.underlying e=some .string)(hc:P.cellsOf e=1){fuel:Nat}{x:DataW H × List MemPlace}
  (h:DataW.trod enc P W base (fun _=>true) true fuel t [v]=some x):∃ xs:List ByteArray,SRow W v xs:=by
 rcases open_strings ht he hc h with⟨hcs,_⟩|⟨a,len,cap,ss,hcs,_,hl,hm,hz,_,hcell,_⟩
 · simp only [List.cons.injEq,and_true] at hcs;subst hcs;exact⟨[],srow_nil W⟩
 simp only [List.cons.injEq,and_true] at hcs;subst hcs;simp only [if_true] at hz;refine⟨ss.take len,?_⟩;have hlen:(ss.take len).length=len:=by simp;omega
 unfold SRow;rw [hlen];refine row_of_cells (by simp;omega) hl hm (by omega) fun j u hu => ?_;have hj:j<len:=by have:=(List.getElem?_eq_some_iff.1 hu).1;simp at this;omega
 rw [hcell j (by omega),← hu,List.getElem?_map,List.getElem?_take,if_pos hj,List.getD_eq_getElem?_getD,List.getElem?_eq_getElem (by omega)];rfl
theorem open_rows{fs:Array Field}(ht:P.underlying t=some (.slice e))(he:P.underlying e=some (.struct fs))(hone:oneCellFields P fs=true)(hC:P.cellsOf e=fs.size){d:DataW H}{ps:List MemPlace}
  (hv:Value.okWide P W .any base t v) (h:DataW.Trod enc P W 0 (fun _=>true) true t v d ps):v=.slice none 0 0 ∨
  ∃(a:Addr) (len cap:Nat),v=.slice (some a) len cap∧len≤cap∧cap≤maxLen ∧
   ∀ i,i<cap→∃ n,∀(j:Nat) (f:Field),fs[j]? = some f→∃(u:Value) (y:DataW H × List MemPlace),W.cell? (a.add (i*fs.size+j))=some u∧DataW.trod enc P W 0 (fun _=>true) true n f.type [u]=some y:=by
 obtain⟨a0,len0,cap0,rfl⟩:=okWide_slice ht hv;obtain⟨fuel,hf⟩:=h;rcases open_slice ht hf with⟨hcs,_⟩|⟨a,len,cap,m,n,D,Pl,hcs,_,hl,hm,hmm,_,hi⟩
 · simp [Value.cells] at hcs;obtain⟨rfl,rfl,rfl⟩:=hcs;exact .inl rfl
 simp [Value.cells] at hcs;obtain⟨rfl,rfl,rfl⟩:=hcs;simp only [if_true] at hmm;subst hmm;refine .inr ⟨a,_,_,rfl,hl,hm,fun i him => ?_⟩;obtain⟨cs',hc,ht'⟩:=hi i him;rw [hC] at hc;obtain⟨ys,n',_,_,hlen,hyl,hf⟩:=DataW.trod_struct he ht';obtain⟨_,hcl,hat⟩:=World.cells?_some hc;refine⟨n',fun j f hj => ?_⟩;obtain⟨ho,hk⟩:=hone_of hone j f hj;have hjl:j<fs.size:=(Array.getElem?_eq_some_iff.1 hj).1;have hcell:=hat j hjl;have hv':cs'[j]? = some (cs'[j]'(by omega)):=List.getElem?_eq_getElem (by omega);have h1:=hf j f hj;rw [ho,hk] at h1;have hone':(cs'.drop j).take 1=[cs'[j]'(by omega)]:=by rw [List.drop_eq_getElem_cons (by omega)];rfl
 rw [hone'] at h1;have hys:ys[j]? = some (ys[j]'(by omega)):=List.getElem?_eq_getElem (by omega);refine⟨_,_,?_,h1.trans hys⟩;rw [← Go.Deep.add_add,hcell,hv']
theorem frow_of_trod{k0 k1:TypeId}{f0 f1 f2:Field}{e1:TypeId}(ht:P.underlying t=some (.slice e))(he:P.underlying e=some (.struct #[f0,f1,f2]))(hone:oneCellFields P #[f0,f1,f2]=true)(hC:P.cellsOf e=3)
  (q0:f0.type=k0) (q1:f1.type=k1) (q2:f2.type=k1) (h0:P.underlying k0=some .string) (h1:P.underlying k1=some (.slice e1)) (he1:P.underlying e1=some .string) (hc1:P.cellsOf e1=1)  {d:DataW H} {ps:List MemPlace}
  (hv:Value.okWide P W .any base t v) (h:DataW.Trod enc P W 0 (fun _=>true) true t v d ps):∃ fs:List FileM,FRow W v fs:=by
 rcases open_rows ht he hone hC hv h with rfl|⟨a,len,cap,rfl,hl,hm,hi⟩
 · exact⟨[],frow_nil W⟩
 have key:∀ i,i<len→∃ x:FileM × Value × Value,W.cell? (a.add (i*3+0))=some (.string x.1.name)∧W.cell? (a.add (i*3+1))=some x.2.1∧W.cell? (a.add (i*3+2))=some x.2.2∧SRow W x.2.1 x.1.also∧SRow W x.2.2 x.1.lines:=by intro i hil;obtain⟨n,hf⟩:=hi i (by omega);obtain⟨u0,y0,hc0,ht0⟩:=hf 0 f0 rfl;obtain⟨u1,y1,hcc1,ht1⟩:=hf 1 f1 rfl;obtain⟨u2,y2,hc2,ht2⟩:=hf 2 f2 rfl;rw [q0] at ht0;rw [q1] at ht1;rw [q2] at ht2;obtain⟨nm,hs,_,_⟩:=DataW.trod_string h0 ht0;simp only [List.cons.injEq,and_true] at hs;subst hs;obtain⟨al,ha⟩:=srow_of_trod h1 he1 hc1 ht1;obtain⟨ll,hll⟩:=srow_of_trod h1 he1 hc1 ht2;exact⟨(⟨nm,al,ll⟩,u1,u2),hc0,hcc1,hc2,ha,hll⟩
 obtain⟨hs,hsl,hsp⟩:=exists_list key;refine⟨hs.map (·.1),hs,rfl,?_,fun x hx => ?_⟩
 ·
  rw [List.length_map,hsl];refine row_of_cells ?_ hl hm (by decide) fun j u hu => ?_
  · rw [flat_size encF_len,hsl]
  obtain⟨i,r,x,hx,hr,rfl⟩:=flat_inv encF_len hu;obtain⟨g0,g1,g2,_,_⟩:=hsp i x hx;have hr3:r<3:=(List.getElem?_eq_some_iff.1 hr).1
  match r,hr3 with
  | 0,_=>cases hr;exact g0
  | 1,_=>cases hr;exact g1
  | 2,_=>cases hr;exact g2
 obtain⟨i,hx'⟩:=List.getElem?_of_mem hx;obtain⟨_,_,_,h3,h4⟩:=hsp i x hx';exact⟨h3,h4⟩
end
end Go.Proofs.YtjccmcgglfncdaaGreatDoor
namespace Go.Proofs.YtjccmcgglfncdaaGreatDoor
open Go Go.ChangeShapes Go.WideShapes Go.Deep Go.RowKit
section
variable {H : Type} {enc : TypeId × Value → H} {P : Program} {W : World} {base : Nat} {held : Bool}
end
section
variable {H : Type} {enc : TypeId × Value → H} {W : World} {base : Nat} {v : Value} {d : DataW H} {ps : List MemPlace}
end
end Go.Proofs.YtjccmcgglfncdaaGreatDoor
