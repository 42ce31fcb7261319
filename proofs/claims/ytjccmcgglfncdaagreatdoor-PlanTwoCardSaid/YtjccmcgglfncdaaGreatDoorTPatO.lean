/- What is proved: PlanTwo, for every input; of the listed tables the walk needs the powers of ten. -/
import Derived.Test.YtjccmcgglfncdaaGreatDoorTDiffE
import Derived.SliceStrings
import Derived.Deep.Slices
import Derived.Deep.Fields
import Derived.ChangeSame
import Derived.ChangeSlices
import Derived.Test.YtjccmcgglfncdaaGreatDoorTRefF
import Derived.Lib.LaidTab
set_option linter.unusedVariables false
set_option linter.unusedSimpArgs false
namespace Go.Proofs.YtjccmcgglfncdaaGreatDoor
open Go Go.ChangeShapes Go.WideShapes Go.Deep Go.RowKit
variable{sz:Nat}{α:Type}{e t:TypeId}{v:Value}
theorem flat_inv{enc:α→List Value}(hz:∀ x,(enc x).length=sz):∀ {l:List α} {j:Nat} {u:Value},(l.flatMap enc)[j]? = some u→∃ i r x,l[i]? = some x∧(enc x)[r]? = some u∧j=i*sz+r
 | [],j,u,h=>by simp at h
 | y :: l,j,u,h=>by
  rw [List.flatMap_cons] at h
  by_cases hj:j<sz
  · rw [List.getElem?_append_left (by rw [hz];exact hj)] at h;exact⟨0,j,y,rfl,h,by omega⟩
  rw [List.getElem?_append_right (by rw [hz];omega),hz] at h;obtain⟨i,r,x,h1,h2,h3⟩:=flat_inv hz h;refine⟨i+1,r,x,h1,h2,?_⟩;rw [Nat.add_mul];omega
theorem flat_size{enc:α→List Value}(hz:∀ x,(enc x).length=sz):∀(l:List α),(l.flatMap enc).length=l.length*sz
 | []=>by simp
 | y :: l=>by rw [List.flatMap_cons,List.length_append,hz,flat_size hz l,List.length_cons,Nat.add_mul];omega
theorem exists_list{p:Nat→α→Prop}:∀ {n:Nat},(∀ i,i<n→∃ x,p i x)→∃ l:List α,l.length=n∧∀ i x,l[i]? = some x→p i x
 | 0,_=>⟨[],rfl,fun i x h=>by simp at h⟩
 | n+1,h=>by
  obtain⟨l,hl,hp⟩:=exists_list (p:=p) (n:=n) fun i hi=>h i (by omega);obtain⟨x,hx⟩:=h n (by omega);refine⟨l++[x],by simp [hl],fun i y hy => ?_⟩
  by_cases hi:i<l.length
  · rw [List.getElem?_append_left hi] at hy;exact hp i y hy
  rw [List.getElem?_append_right (by omega)] at hy;have h0:i - l.length=0:=by have:=(List.getElem?_eq_some_iff.1 hy).1;simp at this;omega
  rw [h0] at hy;simp at hy;subst hy;rw [show i=n by omega];exact hx
section
variable {H : Type} {enc : TypeId × Value → H} {P : Program} {W : World} {base : Nat}
theorem row_of_cells{a:Addr}{n cap:Nat}{cs:List Value}(hl:cs.length=n*sz)(h1:n≤cap)(h2:cap≤maxLen)(hz:0<sz)(hc:∀ j u,cs[j]? = some u→W.cell? (a.add j)=some u):Row W (.slice (some a) n cap) n sz cs:=by
 refine⟨hl,_,cap,rfl,h1,h2,(fun h=>by cases h),fun h0 => ?_⟩;have hpos:0<cs.length:=by rw [hl];exact Nat.mul_pos (by omega) hz
 have hc0:=hc 0 cs[0] (by rw [List.getElem?_eq_getElem]);have hsp:=World.cell?_spot hc0;obtain⟨b,off,sp⟩:=a;simp only [Addr.add] at hsp;have hsp:sp=none:=by cases sp <;> simp_all
 subst hsp;have hb:b<W.heap.size:=by
  rcases Nat.lt_or_ge b W.heap.size with h'|h'
  · exact h'
  simp [World.cell?,Addr.add,Array.getElem?_eq_none h'] at hc0
 refine⟨b,off,rfl,hb,fun j u hu => ?_⟩;have:=hc j u hu
 rwa [Addr.add_lit] at this
theorem srow_of_trod(ht:P.underlying t=some (.slice e))(he:P.underlying e=some .string)(hc:P.cellsOf e=1){fuel:Nat}{x:DataW H × List MemPlace}
  (h:DataW.trod enc P W base (fun _=>true) true fuel t [v]=some x):∃ xs:List ByteArray,SRow W v xs:=by
 rcases open_strings ht he hc h with⟨hcs,_⟩|⟨a,len,cap,ss,hcs,_,hl,hm,hz,_,hcell,_⟩
 · simp only [List.cons.injEq,and_true] at hcs;subst hcs;exact⟨[],srow_nil W⟩
 simp only [List.cons.injEq,and_true] at hcs;subst hcs;simp only [if_true] at hz;refine⟨ss.take len,?_⟩;have hlen:(ss.take len).length=len:=by simp;omega
 unfold SRow;rw [hlen];refine row_of_cells (by simp;omega) hl hm (by omega) fun j u hu => ?_;have hj:j<len:=by have:=(List.getElem?_eq_some_iff.1 hu).1;simp at this;omega
 rw [hcell j (by omega),← hu,List.getElem?_map,List.getElem?_take,if_pos hj,List.getD_eq_getElem?_getD,List.getElem?_eq_getElem (by omega)];rfl
theorem open_rows{fs:Array Field}(ht:P.underlying t=some (.slice e))(he:P.underlying e=some (.struct fs))(hone:oneCellFields P fs=true)(hC:P.cellsOf e=fs.size){d:DataW H}{ps:List MemPlace}
  (hv:Value.okWide P W .any base t v) (h:DataW.Trod enc P W 0 (fun _=>true) true t v d ps):v=.slice none 0 0 ∨
  ∃(a:Addr) (len cap:Nat),v=.slice (some a) len cap∧len≤cap∧cap≤maxLen ∧
   ∀ i,i<cap→∃ n,∀(j:Nat) (f:Field),fs[j]? = some f→∃(u:Value) (y:DataW H × List MemPlace),W.cell? (a.add (i*fs.size+j))=some u∧DataW.trod enc P W 0 (fun _=>true) true n f.type [u]=some y:=by
 obtain⟨a0,len0,cap0,rfl⟩:=okWide_slice ht hv;obtain⟨fuel,hf⟩:=h;rcases open_slice ht hf with⟨hcs,_⟩|⟨a,len,cap,m,n,D,Pl,hcs,_,hl,hm,hmm,_,hi⟩
 · simp [Value.cells] at hcs;obtain⟨rfl,rfl,rfl⟩:=hcs;exact .inl rfl
 simp [Value.cells] at hcs;obtain⟨rfl,rfl,rfl⟩:=hcs;simp only [if_true] at hmm;subst hmm;refine .inr ⟨a,_,_,rfl,hl,hm,fun i him => ?_⟩;obtain⟨cs',hc,ht'⟩:=hi i him;rw [hC] at hc;obtain⟨ys,n',_,_,hlen,hyl,hf⟩:=DataW.trod_struct he ht';obtain⟨_,hcl,hat⟩:=World.cells?_some hc;refine⟨n',fun j f hj => ?_⟩;obtain⟨ho,hk⟩:=hone_of hone j f hj;have hjl:j<fs.size:=(Array.getElem?_eq_some_iff.1 hj).1;have hcell:=hat j hjl;have hv':cs'[j]? = some (cs'[j]'(by omega)):=List.getElem?_eq_getElem (by omega);have h1:=hf j f hj;rw [ho,hk] at h1;have hone':(cs'.drop j).take 1=[cs'[j]'(by omega)]:=by rw [List.drop_eq_getElem_cons (by omega)];rfl
 rw [hone'] at h1;have hys:ys[j]? = some (ys[j]'(by omega)):=List.getElem?_eq_getElem (by omega);refine⟨_,_,?_,h1.trans hys⟩;rw [← Go.Deep.add_add,hcell,hv']
theorem frow_of_trod{k0 k1:TypeId}{f0 f1 f2:Field}{e1:TypeId}(ht:P.underlying t=some (.slice e))(he:P.underlying e=some (.struct #[f0,f1,f2]))(hone:oneCellFields P #[f0,f1,f2]=true)(hC:P.cellsOf e=3)
  (q0:f0.type=k0) (q1:f1.type=k1) (q2:f2.type=k1) (h0:P.underlying k0=some .string) (h1:P.underlying k1=some (.slice e1)) (he1:P.underlying e1=some .string) (hc1:P.cellsOf e1=1)  {d:DataW H} {ps:List MemPlace}
  (hv:Value.okWide P W .any base t v) (h:DataW.Trod enc P W 0 (fun _=>true) true t v d ps):∃ fs:List FileM,FRow W v fs:=by
 rcases open_rows ht he hone hC hv h with rfl|⟨a,len,cap,rfl,hl,hm,hi⟩
 · exact⟨[],frow_nil W⟩
 have key:∀ i,i<len→∃ x:FileM × Value × Value,W.cell? (a.add (i*3+0))=some (.string x.1.name)∧W.cell? (a.add (i*3+1))=some x.2.1∧W.cell? (a.add (i*3+2))=some x.2.2∧SRow W x.2.1 x.1.also∧SRow W x.2.2 x.1.lines:=by intro i hil;obtain⟨n,hf⟩:=hi i (by omega);obtain⟨u0,y0,hc0,ht0⟩:=hf 0 f0 rfl;obtain⟨u1,y1,hcc1,ht1⟩:=hf 1 f1 rfl;obtain⟨u2,y2,hc2,ht2⟩:=hf 2 f2 rfl;rw [q0] at ht0;rw [q1] at ht1;rw [q2] at ht2;obtain⟨nm,hs,_,_⟩:=DataW.trod_string h0 ht0;simp only [List.cons.injEq,and_true] at hs;subst hs;obtain⟨al,ha⟩:=srow_of_trod h1 he1 hc1 ht1;obtain⟨ll,hll⟩:=srow_of_trod h1 he1 hc1 ht2;exact⟨(⟨nm,al,ll⟩,u1,u2),hc0,hcc1,hc2,ha,hll⟩
 obtain⟨hs,hsl,hsp⟩:=exists_list key;refine⟨hs.map (·.1),hs,rfl,?_,fun x hx => ?_⟩
 ·
  rw [List.length_map,hsl];refine row_of_cells ?_ hl hm (by decide) fun j u hu => ?_
  · rw [flat_size encF_len,hsl]
  obtain⟨i,r,x,hx,hr,rfl⟩:=flat_inv encF_len hu;obtain⟨g0,g1,g2,_,_⟩:=hsp i x hx;have hr3:r<3:=(List.getElem?_eq_some_iff.1 hr).1
  match r,hr3 with
  | 0,_=>cases hr;exact g0
  | 1,_=>cases hr;exact g1
  | 2,_=>cases hr;exact g2
 obtain⟨i,hx'⟩:=List.getElem?_of_mem hx;obtain⟨_,_,_,h3,h4⟩:=hsp i x hx';exact⟨h3,h4⟩
end
end Go.Proofs.YtjccmcgglfncdaaGreatDoor
set_option maxRecDepth 100000
set_option maxHeartbeats 40000000
namespace Go.Proofs.YtjccmcgglfncdaaGreatDoor
open Go Go.ChangeShapes Go.WideShapes Go.Deep Go.RowKit
variable{f0 f1:Field}{cs:List Value}{n sz:Nat}{α:Type}{k0 k1 t:TypeId}
theorem flat_invQ{enc:α→List Value}(hz:∀ x,(enc x).length=sz):∀ {l:List α} {j:Nat} {u:Value},(l.flatMap enc)[j]? = some u→∃ i r x,l[i]? = some x∧(enc x)[r]? = some u∧j=i*sz+r
 | [],j,u,h=>by simp at h
 | y :: l,j,u,h=>by
  rw [List.flatMap_cons] at h
  by_cases hj:j<sz
  · rw [List.getElem?_append_left (by rw [hz];exact hj)] at h;exact⟨0,j,y,rfl,h,by omega⟩
  rw [List.getElem?_append_right (by rw [hz];omega),hz] at h;obtain⟨i,r,x,h1,h2,h3⟩:=flat_invQ hz h;refine⟨i+1,r,x,h1,h2,?_⟩;rw [Nat.add_mul];omega
theorem flat_sizeQ{enc:α→List Value}(hz:∀ x,(enc x).length=sz):∀(l:List α),(l.flatMap enc).length=l.length*sz
 | []=>by simp
 | y :: l=>by rw [List.flatMap_cons,List.length_append,hz,flat_sizeQ hz l,List.length_cons,Nat.add_mul];omega
theorem exists_listQ{p:Nat→α→Prop}:∀ {n:Nat},(∀ i,i<n→∃ x,p i x)→∃ l:List α,l.length=n∧∀ i x,l[i]? = some x→p i x
 | 0,_=>⟨[],rfl,fun i x h=>by simp at h⟩
 | n+1,h=>by
  obtain⟨l,hl,hp⟩:=exists_listQ (p:=p) (n:=n) fun i hi=>h i (by omega);obtain⟨x,hx⟩:=h n (by omega);refine⟨l++[x],by simp [hl],fun i y hy => ?_⟩
  by_cases hi:i<l.length
  · rw [List.getElem?_append_left hi] at hy;exact hp i y hy
  rw [List.getElem?_append_right (by omega)] at hy;have h0:i - l.length=0:=by have:=(List.getElem?_eq_some_iff.1 hy).1;simp at this;omega
  rw [h0] at hy;simp at hy;subst hy;rw [show i=n by omega];exact hx
section
variable {H : Type} {enc : TypeId × Value → H} {P : Program} {W : World} {base : Nat} {held : Bool}
theorem row_of_cellsQ{a:Addr}{cap:Nat}(hl:cs.length=n*sz)(h1:n≤cap)(h2:cap≤maxLen)(hz:0<sz)(hc:∀ j u,cs[j]? = some u→W.cell? (a.add j)=some u):Row W (.slice (some a) n cap) n sz cs:=by
 refine⟨hl,_,cap,rfl,h1,h2,(fun h=>by cases h),fun h0 => ?_⟩;have hpos:0<cs.length:=by rw [hl];exact Nat.mul_pos (by omega) hz
 have hc0:=hc 0 cs[0] (by rw [List.getElem?_eq_getElem]);have hsp:=World.cell?_spot hc0;obtain⟨b,off,sp⟩:=a;simp only [Addr.add] at hsp;have hsp:sp=none:=by cases sp <;> simp_all
 subst hsp;have hb:b<W.heap.size:=by
  rcases Nat.lt_or_ge b W.heap.size with h'|h'
  · exact h'
  simp [World.cell?,Addr.add,Array.getElem?_eq_none h'] at hc0
 refine⟨b,off,rfl,hb,fun j u hu => ?_⟩;have:=hc j u hu
 rwa [Addr.add_lit] at this
theorem u8_wf{z:Int}(h:(Lit.int .u8 z).wf=true):∃ b:UInt8,z=(b.toNat:Int):=by
 simp only [Lit.wf,Bool.and_eq_true,decide_eq_true_eq] at h;have h1:IntKind.u8.min=0:=by decide
 have h2:IntKind.u8.max=255:=by decide
 rw [h1,h2] at h;refine⟨UInt8.ofNat z.toNat,?_⟩;simp;omega
theorem u16_wf{z:Int}(h:(Lit.int .u16 z).wf=true):∃ b:UInt16,z=(b.toNat:Int):=by
 simp only [Lit.wf,Bool.and_eq_true,decide_eq_true_eq] at h;have h1:IntKind.u16.min=0:=by decide
 have h2:IntKind.u16.max=65535:=by decide
 rw [h1,h2] at h;refine⟨UInt16.ofNat z.toNat,?_⟩;simp;omega
theorem trod_pid(ht:P.underlying t=some (.struct #[f0,f1]))(hC:P.cellsOf t=2)(o0:f0.offset=0)(o1:f1.offset=1)(q0:f0.type=k0)(q1:f1.type=k1)(c0:P.cellsOf k0=1)(c1:P.cellsOf k1=1)
  (u0:P.underlying k0=some (.int .u8)) (u1:P.underlying k1=some (.int .u16))   {x:DataW H × List MemPlace} (h:DataW.trod enc P W base (fun _=>true) held n t cs=some x):∃ p:PidM,cs=encPid p:=by
 obtain⟨xs,n',_,_,hl,hxl,hf⟩:=DataW.trod_struct ht h;rw [hC] at hl;have h0:=hf 0 f0 rfl;have h1:=hf 1 f1 rfl;rw [o0,q0,c0] at h0;rw [o1,q1,c1] at h1
 match cs,hl with
 | [a,b],_ =>have e0:xs[0]? = some (xs[0]'(by rw [hxl];simp)):=List.getElem?_eq_getElem _;have e1:xs[1]? = some (xs[1]'(by rw [hxl];simp)):=List.getElem?_eq_getElem _;obtain⟨z,hz,_,hw⟩:=DataW.trod_int u0 (h0.trans e0);obtain⟨z',hz',_,hw'⟩:=DataW.trod_int u1 (h1.trans e1);simp at hz hz';obtain⟨x0,rfl⟩:=u8_wf hw;obtain⟨x1,rfl⟩:=u16_wf hw';exact⟨⟨x0,x1⟩,by rw [hz,hz'];rfl⟩
def OpensPid(enc:TypeId × Value→H)(P:Program)(W:World)(base:Nat)(held:Bool)(t:TypeId):Prop:=∀(n:Nat) (cs:List Value) (x:DataW H × List MemPlace),DataW.trod enc P W base (fun _=>true) held n t cs=some x→∃ p:PidM,cs=encPid p
def OpensVid(enc:TypeId × Value→H)(P:Program)(W:World)(base:Nat)(held:Bool)(t:TypeId):Prop:=∀(n:Nat) (cs:List Value) (x:DataW H × List MemPlace),DataW.trod enc P W base (fun _=>true) held n t cs=some x→∃ v:VidM,cs=encVid v
theorem trod_vid(ht:P.underlying t=some (.struct #[f0,f1]))(hC:P.cellsOf t=3)(o0:f0.offset=0)(o1:f1.offset=2)(q0:f0.type=k0)(q1:f1.type=k1)(c0:P.cellsOf k0=2)(c1:P.cellsOf k1=1)
  (hp:OpensPid enc P W base held k0) (u1:P.underlying k1=some (.int .u8)):OpensVid enc P W base held t:=by
 intro n cs x h;obtain⟨xs,n',_,_,hl,hxl,hf⟩:=DataW.trod_struct ht h;rw [hC] at hl;have h0:=hf 0 f0 rfl;have h1:=hf 1 f1 rfl;rw [o0,q0,c0] at h0;rw [o1,q1,c1] at h1
 match cs,hl with
 | [a,b,c],_ =>have e0:xs[0]? = some (xs[0]'(by rw [hxl];simp)):=List.getElem?_eq_getElem _;have e1:xs[1]? = some (xs[1]'(by rw [hxl];simp)):=List.getElem?_eq_getElem _;obtain⟨p,hp'⟩:=hp _ _ _ (h0.trans e0);obtain⟨z',hz',_,hw'⟩:=DataW.trod_int u1 (h1.trans e1);simp [encPid] at hp' hz';obtain⟨x1,rfl⟩:=u8_wf hw';exact⟨⟨p,x1⟩,by rw [hp'.1,hp'.2,hz'];rfl⟩
def OpensOp(enc:TypeId × Value→H)(P:Program)(W:World)(base:Nat)(held:Bool)(t:TypeId):Prop:=∀(n:Nat) (cs:List Value) (x:DataW H × List MemPlace),DataW.trod enc P W base (fun _=>true) held n t cs=some x→∃ o:OpM,cs=encOp o∧o.text.size≤maxLen
theorem trod_op{k3:TypeId}{f2 f3:Field}(ht:P.underlying t=some (.struct #[f0,f1,f2,f3]))(hC:P.cellsOf t=8)(o0:f0.offset=0)(o1:f1.offset=1)(o2:f2.offset=4)(o3:f3.offset=7)
  (q0:f0.type=k0) (q1:f1.type=k1) (q2:f2.type=k1) (q3:f3.type=k3) (c0:P.cellsOf k0=1) (c1:P.cellsOf k1=3) (c3:P.cellsOf k3=1)
  (u0:P.underlying k0=some (.int .u8)) (hv:OpensVid enc P W base held k1) (u3:P.underlying k3=some .string):OpensOp enc P W base held t:=by
 intro n cs x h;obtain⟨xs,n',_,_,hl,hxl,hf⟩:=DataW.trod_struct ht h;rw [hC] at hl;have h0:=hf 0 f0 rfl;have h1:=hf 1 f1 rfl;have h2:=hf 2 f2 rfl;have h3:=hf 3 f3 rfl;rw [o0,q0,c0] at h0;rw [o1,q1,c1] at h1;rw [o2,q2,c1] at h2;rw [o3,q3,c3] at h3
 match cs,hl with
 | [a0,a1,a2,a3,a4,a5,a6,a7],_ =>have e0:xs[0]? = some (xs[0]'(by rw [hxl];simp)):=List.getElem?_eq_getElem _;have e1:xs[1]? = some (xs[1]'(by rw [hxl];simp)):=List.getElem?_eq_getElem _;have e2:xs[2]? = some (xs[2]'(by rw [hxl];simp)):=List.getElem?_eq_getElem _;have e3:xs[3]? = some (xs[3]'(by rw [hxl];simp)):=List.getElem?_eq_getElem _;obtain⟨z,hz,_,hw⟩:=DataW.trod_int u0 (h0.trans e0);obtain⟨v1,hv1⟩:=hv _ _ _ (h1.trans e1);obtain⟨v2,hv2⟩:=hv _ _ _ (h2.trans e2);obtain⟨s,hs,_,hm⟩:=DataW.trod_string u3 (h3.trans e3);simp [encVid] at hz hv1 hv2 hs;obtain⟨x0,rfl⟩:=u8_wf hw;obtain⟨g1,g2,g3⟩:=hv1;obtain⟨g4,g5,g6⟩:=hv2;exact⟨⟨x0,v1,v2,s⟩,by rw [hz,g1,g2,g3,g4,g5,g6,hs];rfl,hm⟩
theorem grow_of_trod{encX:α→List Value}(hz:∀ x,(encX x).length=sz)(hpos:0<sz){Q:α→Prop}{e:TypeId}(ht:P.underlying t=some (.slice e))(hC:P.cellsOf e=sz)
  (hel:∀(n:Nat) (cs:List Value) (x:DataW H × List MemPlace),DataW.trod enc P W base (fun _=>true) true n e cs=some x→∃ a,cs=encX a∧Q a) {fuel:Nat} {v:Value} {x:DataW H × List MemPlace}
  (h:DataW.trod enc P W base (fun _=>true) true fuel t [v]=some x):∃ xs:List α,GRow encX sz W v xs∧∀ a∈xs,Q a:=by
 rcases open_slice ht h with⟨hcs,_⟩|⟨a,len,cap,m,n,D,Pl,hcs,_,hl,hm,hmm,_,hi⟩
 · simp only [List.cons.injEq,and_true] at hcs;subst hcs;exact⟨[],row_nil W sz,fun a ha=>absurd ha (List.not_mem_nil)⟩
 simp only [List.cons.injEq,and_true] at hcs;subst hcs;simp only [if_true] at hmm;subst hmm;have key:∀ i,i<len→∃ y:α,(∀ r u,(encX y)[r]? = some u→W.cell? (a.add (i*sz+r))=some u)∧Q y:=by
  intro i hil;obtain⟨cs',hc,ht'⟩:=hi i (by omega);rw [hC] at hc;obtain⟨_,hcl,hat⟩:=World.cells?_some hc;obtain⟨y,rfl,hq⟩:=hel _ _ _ ht';refine⟨y,fun r u hr => ?_,hq⟩;have hr':r<sz:=by have:=(List.getElem?_eq_some_iff.1 hr).1;rw [hz] at this;exact this
  rw [← Go.Deep.add_add,hat r hr',hr]
 obtain⟨ys,hyl,hyp⟩:=exists_listQ key;refine⟨ys,?_,fun y hy => ?_⟩
 · unfold GRow;rw [hyl];refine row_of_cellsQ (by rw [flat_sizeQ hz,hyl]) hl hm hpos fun j u hu => ?_;obtain⟨i,r,y,hy,hr,rfl⟩:=flat_invQ hz hu;exact(hyp i y hy).1 r u hr
 obtain⟨i,hi'⟩:=List.getElem?_of_mem hy;exact(hyp i y hi').2
theorem trod_pat{k2 e1 e2:TypeId}{f2:Field}(ht:P.underlying t=some (.struct #[f0,f1,f2]))(hC:P.cellsOf t=4)(o0:f0.offset=0)(o1:f1.offset=2)(o2:f2.offset=3)
  (q0:f0.type=k0) (q1:f1.type=k1) (q2:f2.type=k2) (c0:P.cellsOf k0=2) (c1:P.cellsOf k1=1) (c2:P.cellsOf k2=1) (hp:OpensPid enc P W base true k0)
  (u1:P.underlying k1=some (.slice e1)) (u2:P.underlying k2=some (.slice e2)) (d1:P.cellsOf e1=2) (d2:P.cellsOf e2=8) (hp1:OpensPid enc P W base true e1) (ho2:OpensOp enc P W base true e2)
    {x:DataW H × List MemPlace} (h:DataW.trod enc P W base (fun _=>true) true n t cs=some x):∃ y:LaidP,cs=encPat y∧(PatOk W y∧∀ o∈y.p.ops,o.text.size≤maxLen):=by
 obtain⟨xs,n',_,_,hl,hxl,hf⟩:=DataW.trod_struct ht h;rw [hC] at hl;have h0:=hf 0 f0 rfl;have h1:=hf 1 f1 rfl;have h2:=hf 2 f2 rfl;rw [o0,q0,c0] at h0;rw [o1,q1,c1] at h1;rw [o2,q2,c2] at h2
 match cs,hl with
 | [a0,a1,a2,a3],_ =>have e0:xs[0]? = some (xs[0]'(by rw [hxl];simp)):=List.getElem?_eq_getElem _;have e1:xs[1]? = some (xs[1]'(by rw [hxl];simp)):=List.getElem?_eq_getElem _;have e2:xs[2]? = some (xs[2]'(by rw [hxl];simp)):=List.getElem?_eq_getElem _;obtain⟨p,hp'⟩:=hp _ _ _ (h0.trans e0);have g1:DataW.trod enc P W base (fun _=>true) true n' k1 [a2]=some _:=h1.trans e1;have g2:DataW.trod enc P W base (fun _=>true) true n' k2 [a3]=some _:=h2.trans e2;obtain⟨ds,hd,_⟩:=grow_of_trod (Q:=fun _=>True) encPid_len (by decide) u1 d1 (fun n cs x h=>by obtain⟨p,hp⟩:=hp1 n cs x h;exact⟨p,hp,trivial⟩) g1;obtain⟨os,ho,hoq⟩:=grow_of_trod (Q:=fun o:OpM=>o.text.size≤maxLen) encOp_len (by decide) u2 d2 ho2 g2;simp [encPid] at hp';exact⟨⟨⟨p,ds,os⟩,a2,a3⟩,by rw [hp'.1,hp'.2];rfl,⟨hd,ho⟩,hoq⟩
theorem pats_of_trod{e:TypeId}(ht:P.underlying t=some (.slice e))(hC:P.cellsOf e=4)
  (hel:∀(n:Nat) (cs:List Value) (x:DataW H × List MemPlace),DataW.trod enc P W 0 (fun _=>true) true n e cs=some x→∃ y:LaidP,cs=encPat y∧(PatOk W y∧∀ o∈y.p.ops,o.text.size≤maxLen)) {v:Value} {d:DataW H} {ps:List MemPlace}
  (hv:Value.okWide P W .any base t v) (h:DataW.Trod enc P W 0 (fun _=>true) true t v d ps):∃ xs:List LaidP,Pats W v xs∧∀ x∈xs,∀ o∈x.p.ops,o.text.size≤maxLen:=by obtain⟨a0,len0,cap0,rfl⟩:=okWide_slice ht hv;obtain⟨fuel,hf⟩:=h;have hf':DataW.trod enc P W 0 (fun _=>true) true fuel t [.slice a0 len0 cap0]=some _:=hf;obtain⟨xs,h1,h2⟩:=grow_of_trod encPat_len (by decide) ht hC hel hf';exact⟨xs,⟨h1,fun x hx=>(h2 x hx).1⟩,fun x hx=>(h2 x hx).2⟩
end
section
variable {H : Type} {enc : TypeId × Value → H} {W : World} {base : Nat} {v : Value} {d : DataW H} {ps : List MemPlace}
theorem opens_pid(base:Nat)(held:Bool):OpensPid enc Tryz.prog W base held 25:=fun n cs x h =>
 trod_pid Tryz.underlying25 (by kernel_rfl) rfl rfl rfl rfl (by kernel_rfl) (by kernel_rfl) Tryz.underlying5 Tryz.underlying23 h
theorem opens_vid(base:Nat)(held:Bool):OpensVid enc Tryz.prog W base held 74:=
 trod_vid Tryz.underlying74 (by kernel_rfl) rfl rfl rfl rfl (by kernel_rfl) (by kernel_rfl) (opens_pid base held) Tryz.underlying5
theorem opens_op(base:Nat)(held:Bool):OpensOp enc Tryz.prog W base held 76:=
 trod_op Tryz.underlying76 (by kernel_rfl) rfl rfl rfl rfl rfl rfl rfl rfl (by kernel_rfl) (by kernel_rfl) (by kernel_rfl) Tryz.underlying5 (opens_vid base held) Tryz.underlying9
theorem pats_arg(hv:Value.okWide Tryz.prog W .any base 22 v)(h:DataW.Trod enc Tryz.prog W 0 (fun _=>true) true 22 v d ps):∃ xs:List LaidP,Pats W v xs∧∀ x∈xs,∀ o∈x.p.ops,o.text.size≤maxLen:=
 pats_of_trod Tryz.underlying22 (by kernel_rfl) (fun n cs x h=>trod_pat Tryz.underlying44 (by kernel_rfl) rfl rfl rfl rfl rfl rfl (by kernel_rfl) (by kernel_rfl) (by kernel_rfl) (opens_pid 0 true)
  Tryz.underlying42 Tryz.underlying36 (by kernel_rfl) (by kernel_rfl) (opens_pid 0 true) (opens_op 0 true) h) hv h
end
end Go.Proofs.YtjccmcgglfncdaaGreatDoor
