/- What is proved: MergeTurns, for every input; of the listed tables the walk needs the powers of ten. -/
import Derived.Test.YtjccmcgglfncdaaGreatDoorUBase
import Derived.Maps.RangeWalk
import Derived.DeepKeys4
import Derived.Test.YtjccmcgglfncdaaGreatDoorUGrQ
set_option linter.unusedVariables false
set_option linter.unusedSimpArgs false
namespace Go.Proofs.YtjccmcgglfncdaaGreatDoor
open Go Go.RowKit Go.WideElems
open Go.Maps (Keyed)
variable{b cnt n r:Nat}{e t:TypeId}{w w':World}
section
variable {P : Program} {k : TypeId} {κ ν : Type} {kenc : κ → Value} {ok : κ → Prop} {venc : ν → Value}
structure KeyEnc (P:Program) (k:TypeId) (kenc:κ→Value) (ok:κ→Prop):Prop where
 keyed:Keyed P k
 reads:∀ x,ok x→∃ l,keyOf P k (kenc x)=some l
 inj:∀ x y,kenc x=kenc y→x=y
open Classical in
noncomputable def rdr(venc:ν→Value)(v:Value):Option (DataW ν × List MemPlace):=if h:∃ x,venc x=v then some (.held h.choose,[]) else none
theorem rdr_mk(hv:∀ x y,venc x=venc y→x=y)(x:ν):rdr venc (venc x)=some (.held x,[]):=by have h:∃ y,venc y=venc x:=⟨x,rfl⟩;unfold rdr;rw [dif_pos h,hv _ _ h.choose_spec]
theorem rdr_inv{v:Value}{y:DataW ν × List MemPlace}(h:rdr venc v=some y):∃ x,v=venc x∧y.1=.held x:=by
 unfold rdr at h;split at h
 ·
  rename_i hx;cases h
  exact⟨hx.choose,hx.choose_spec.symm,rfl⟩
 cases h
structure Holds (P:Program) (k:TypeId) (kenc:κ→Value) (ok:κ→Prop) (D:DataW ν) (f:κ→Option ν):Prop where
 at':∀ x,ok x→∀ l,keyOf P k (kenc x)=some l→Maps.has D l=(f x).isSome∧∀ v,f x=some v→∀ z,D.atKey l z=.held v
 from':∀ l,Maps.has D l=true→∃ x,ok x∧keyOf P k (kenc x)=some l
def TMap(P:Program)(k:TypeId)(kenc:κ→Value)(ok:κ→Prop)(venc:ν→Value)(w:World)(b n:Nat)(f:κ→Option ν):Prop:=
 ∃ D:DataW ν,w.ownsMap P k (rdr venc) b n D∧Holds P k kenc ok D f
theorem TMap.made(w:World):TMap P k kenc ok venc (w.alloc (.map #[] 0)) w.heap.size 0 (fun _=>none):=
 ⟨.map [],World.ownsMap_made w P k _,⟨fun _ _ _ _=>⟨rfl,fun _ h=>by cases h⟩,fun _ h=>by cases h⟩⟩
theorem TMap.lt{f:κ→Option ν}(h:TMap P k kenc ok venc w b n f):b<w.heap.size:=by obtain⟨D,h,_⟩:=h;exact h.lt
theorem TMap.kept{f:κ→Option ν}{row:Option Nat}(h:TMap P k kenc ok venc w b n f)(hg:w.grownBy w' row)(hne:some b≠row):TMap P k kenc ok venc w' b n f:=by obtain⟨D,h,hH⟩:=h;exact⟨D,h.kept hg hne,hH⟩
theorem TMap.over{f:κ→Option ν}(h:TMap P k kenc ok venc w b n f)(hb:Be w w'):TMap P k kenc ok venc w' b n f:=
 h.kept (row:=none) ⟨hb.os,hb.tape,hb.output,hb.size,fun i hi _=>hb.block i hi⟩ (by simp)
theorem TMap.alloc{f:κ→Option ν}(h:TMap P k kenc ok venc w b n f)(o:Obj):TMap P k kenc ok venc (w.alloc o) b n f:=by obtain⟨D,h,hH⟩:=h;exact⟨D,h.alloc o,hH⟩
theorem TMap.drew{f:κ→Option ν}(h:TMap P k kenc ok venc w b n f):TMap P k kenc ok venc w.drew b n f:=h
theorem TMap.mono{n':Nat}{f:κ→Option ν}(h:TMap P k kenc ok venc w b n f)(hn:n≤n'):TMap P k kenc ok venc w b n' f:=by obtain⟨D,h,hH⟩:=h;exact⟨D,h.mono hn,hH⟩
theorem TMap.congr{f g:κ→Option ν}(h:TMap P k kenc ok venc w b n f)(hfg:∀ x,ok x→f x=g x):TMap P k kenc ok venc w b n g:=by obtain⟨D,h,hH⟩:=h;exact⟨D,h,⟨fun x hx l hl=>by rw [← hfg x hx];exact hH.at' x hx l hl,hH.from'⟩⟩
theorem TMap.lookup(KE:KeyEnc P k kenc ok)(hv:∀ x y,venc x=venc y→x=y){f:κ→Option ν}(h:TMap P k kenc ok venc w b n f)(ht:P.underlying t=some (.map k e)){zv:ν}
  (hz:(zeroValue e).run P w=.ok (venc zv) w) (x:κ) (hx:ok x):(Instr.lookup t (.map (some b)) (kenc x) false).run P w=.ok (venc ((f x).getD zv)) w:=by
 obtain⟨D,h,hH⟩:=h;obtain⟨l,hl⟩:=KE.reads x hx;obtain⟨v,ps,h1,h2⟩:=h.lookup KE.keyed ht hz (rdr_mk hv zv) hl;obtain⟨u,rfl,h3⟩:=rdr_inv h2;rw [h1];obtain⟨h4,h5⟩:=hH.at' x hx l hl;cases hf:f x with
 | none =>rw [hf] at h4;rw [Maps.atKey_of_not_has h4] at h3;cases h3;rfl
 | some y =>rw [h5 y hf] at h3;cases h3;rfl
theorem TMap.look_ok(KE:KeyEnc P k kenc ok)(hv:∀ x y,venc x=venc y→x=y){f:κ→Option ν}(h:TMap P k kenc ok venc w b n f)(ht:P.underlying t=some (.map k e)){zv:ν}
  (hz:(zeroValue e).run P w=.ok (venc zv) w) (x:κ) (hx:ok x):(Instr.lookup t (.map (some b)) (kenc x) true).run P w=.ok (.tuple #[venc ((f x).getD zv),.bool (f x).isSome]) w:=by
 obtain⟨D,h,hH⟩:=h;obtain⟨l,hl⟩:=KE.reads x hx;obtain⟨v,ps,h1,h2⟩:=h.look_ok KE.keyed ht hz (rdr_mk hv zv) hl;obtain⟨u,rfl,h3⟩:=rdr_inv h2;obtain⟨h4,h5⟩:=hH.at' x hx l hl;rw [h1,h4];cases hf:f x with
 | none =>rw [hf] at h4;rw [Maps.atKey_of_not_has h4] at h3;cases h3;rfl
 | some y =>rw [h5 y hf] at h3;cases h3;rfl
def updM[DecidableEq κ](f:κ→Option ν)(x:κ)(v:ν):κ→Option ν:=fun y=>if y=x then some v else f y
theorem Holds.put[DecidableEq κ](KE:KeyEnc P k kenc ok){D:DataW ν}{f:κ→Option ν}(hD:Maps.IsMap D)(h:Holds P k kenc ok D f){x:κ}(hx:ok x){l:Lit}(hl:keyOf P k (kenc x)=some l)(v:ν):Holds P k kenc ok (D.put l (.held v)) (updM f x v):=by
 have hk:=KE.keyed.key hl;refine⟨fun y hy l' hl' => ?_,fun l' hl' => ?_⟩
 ·
  unfold updM
  by_cases hxy:y=x
  · subst hxy;have:l'=l:=(by rw [hl] at hl';exact(Option.some.inj hl').symm);subst this;rw [if_pos rfl];exact⟨by rw [Maps.has_put_same hD hk];rfl,fun u hu z=>by cases hu;exact Maps.atKey_put_same hD hk _ _⟩
  have hne:l'≠l:=fun e=>hxy (KE.inj _ _ (KE.keyed.inj hl' (e▸hl)));rw [if_neg hxy];obtain⟨h1,h2⟩:=h.at' y hy l' hl';exact⟨by rw [Maps.has_put_other hne];exact h1,fun u hu z=>by rw [Maps.atKey_put_other hne];exact h2 u hu z⟩
 by_cases hne:l'=l
 · exact⟨x,hx,hne▸hl⟩
 rw [Maps.has_put_other hne] at hl';exact h.from' l' hl'
theorem TMap.store[DecidableEq κ](KE:KeyEnc P k kenc ok)(hv:∀ x y,venc x=venc y→x=y){f:κ→Option ν}(h:TMap P k kenc ok venc w b n f)(ht:P.underlying t=some (.map k e))(hn:n<maxLen)(x:κ)(hx:ok x)(v:ν) :
  ∃ w',(Instr.mapUpdate t (.map (some b)) (kenc x) (venc v)).run P w=.ok () w'∧TMap P k kenc ok venc w' b (n+1) (updM f x v)∧w.mapTurned w' b:=by obtain⟨D,h,hH⟩:=h;obtain⟨l,hl⟩:=KE.reads x hx;obtain⟨w',h1,h2,h3⟩:=h.store KE.keyed ht hn hl (rdr_mk hv v);exact⟨w',h1,⟨_,h2,hH.put KE h.isMap hx hl v⟩,h3⟩
def TRanges(P:Program)(k:TypeId)(kenc:κ→Value)(ok:κ→Prop)(venc:ν→Value)(w:World)(b r n:Nat)(f:κ→Option ν)(left:κ→Bool)(cnt:Nat):Prop:=
 ∃(D:DataW ν) (lf:Lit→Bool),w.ranges P k (rdr venc) b r n D lf cnt∧Holds P k kenc ok D f∧(∀ x,ok x→∀ l,keyOf P k (kenc x)=some l→lf l=left x)∧∀ l,lf l=true→Maps.has D l=true
theorem TRanges.kept{f:κ→Option ν}{left:κ→Bool}{row:Option Nat}(h:TRanges P k kenc ok venc w b r n f left cnt)(hg:w.grownBy w' row)(hb:some b≠row)(hr:some r≠row):TRanges P k kenc ok venc w' b r n f left cnt:=by obtain⟨D,lf,h,hH,h1,h2⟩:=h;exact⟨D,lf,h.kept hg hb hr,hH,h1,h2⟩
theorem TRanges.left_eq{f:κ→Option ν}{left:κ→Bool}(h:TRanges P k kenc ok venc w b r n f left cnt):w.rangeLeft b r=cnt:=by obtain⟨D,lf,h,_⟩:=h;exact h.left_eq
theorem TMap.range{f:κ→Option ν}(KE:KeyEnc P k kenc ok)(h:TMap P k kenc ok venc w b n f)(ht:P.underlying t=some (.map k e)) :
  ∃ w' cnt,(Instr.range t (.map (some b))).run P w=.ok (.pointer (some ⟨w.heap.size,0,none⟩)) w'∧TRanges P k kenc ok venc w' b w.heap.size n f (fun x=>(f x).isSome) cnt∧w.grownBy w' none∧w'.heap.size=w.heap.size+1:=by obtain⟨D,h,hH⟩:=h;obtain⟨w',h1,h2,h3,h4⟩:=h.range KE.keyed ht;exact⟨w',_,h1,⟨D,_,h2,hH,fun x hx l hl=>(hH.at' x hx l hl).1,fun l hl=>hl⟩,h3,h4⟩
theorem TRanges.next[DecidableEq κ](KE:KeyEnc P k kenc ok){f:κ→Option ν}{left:κ→Bool}(h:TRanges P k kenc ok venc w b r n f left cnt)(ty:TypeId) :
  (cnt=0∧(∀ x,ok x→left x=false)∧(Instr.next (.pointer (some ⟨r,0,none⟩)) false ty).run P w=.ok (.tuple #[.bool false]) w) ∨
  ∃ x v w' cnt',ok x∧left x=true∧f x=some v∧(Instr.next (.pointer (some ⟨r,0,none⟩)) false ty).run P w=.ok (.tuple #[.bool true,kenc x,venc v]) w' ∧
   TRanges P k kenc ok venc w' b r n f (fun y=>left y && !decide (y=x)) cnt'∧cnt'<cnt∧w.grownBy w' (some r)∧w'.heap.size=w.heap.size∧(Instr.entry (.pointer (some ⟨r,0,none⟩))).run P w'=.ok (.tuple #[kenc x,venc v]) w':=by
 obtain⟨D,lf,h,hH,hl1,hl2⟩:=h;rcases h.next KE.keyed ty with⟨h0,h1,h2⟩|⟨key,v,kl,y,w',cnt',hk,hlf,hRv,hat,hrun,hr',hlt,hg,hs,hen⟩
 · exact .inl ⟨h0,fun x hx=>by obtain⟨l,hl⟩:=KE.reads x hx;rw [← hl1 x hx l hl];exact h1 l,h2⟩
 obtain⟨x,hx,hxl⟩:=hH.from' kl (hl2 kl hlf);obtain rfl:=KE.keyed.inj hk hxl;obtain⟨u,rfl,hu⟩:=rdr_inv hRv;obtain⟨h4,h5⟩:=hH.at' x hx kl hxl;have hfx:f x=some u:=by
  cases hf:f x with
  | none =>rw [hf,hl2 kl hlf] at h4;simp at h4
  | some y' =>have:=h5 y' hf .nil;rw [hat,hu] at this;cases this;rfl
 refine .inr ⟨x,u,w',cnt',hx,by rw [← hl1 x hx kl hxl];exact hlf,hfx,hrun,⟨D,_,hr',hH,fun z hz l hl => ?_,fun l hl=>hl2 l (by simp at hl;exact hl.1)⟩,hlt,hg,hs,hen⟩;simp only;rw [hl1 z hz l hl]
 by_cases hzx:z=x
 ·
  subst hzx;have:l=kl:=by rw [hxl] at hl;exact(Option.some.inj hl).symm
  subst this;rw [WideAt.sameKey_self (KE.keyed.key hxl)];simp
 have:l≠kl:=fun e=>hzx (KE.inj _ _ (KE.keyed.inj hl (e▸hxl)));rw [Maps.sameKey_ne this];simp [hzx]
variable {w : World} {ops : Array Oper} {rest : List Oper} {o : Oper} {a : Act} {Q : Exit → Act → World → Prop}
theorem wpList_tlook(KE:KeyEnc P k kenc ok)(hv:∀ x y,venc x=venc y→x=y)(hgd:o.guard=none)(m x:Operand)(t:TypeId)(hop:o.op=Op.lookup t m x false)(ht:P.underlying t=some (.map k e))(zv:ν)
  (hz:(zeroValue e).run P w=.ok (venc zv) w) (b n:Nat) (f:κ→Option ν) (hm:a.eval m=.map (some b)) (h:TMap P k kenc ok venc w b n f) (y:κ) (hx:a.eval x=kenc y) (hy:ok y)
  (hK:wpList P ops Q rest (a.put o.dst (venc ((f y).getD zv))) w):wpList P ops Q (o :: rest) a w:=by refine wpList_plain hgd fun K' hK' => ?_;unfold Oper.wp;simp [execOp,hop,hm,hx,h.lookup KE hv ht hz y hy,Result.andThen];exact hK' _ _ hK
theorem wpList_tstore[DecidableEq κ](KE:KeyEnc P k kenc ok)(hv:∀ x y,venc x=venc y→x=y)(hgd:o.guard=none)(m x u:Operand)(t:TypeId)(hop:o.op=Op.mapUpdate t m x u)(ht:P.underlying t=some (.map k e))
  (b n:Nat) (f:κ→Option ν) (hm:a.eval m=.map (some b)) (h:TMap P k kenc ok venc w b n f) (hn:n<maxLen) (y:κ) (hx:a.eval x=kenc y) (hy:ok y) (v:ν) (hu:a.eval u=venc v)
  (hK:∀ w',TMap P k kenc ok venc w' b (n+1) (updM f y v)→w.grownBy w' (some b)→w'.heap.size=w.heap.size→wpList P ops Q rest (a.put o.dst undef) w'):wpList P ops Q (o :: rest) a w:=by
 refine wpList_plain hgd fun K' hK' => ?_;obtain⟨w',hrun,h1,h2⟩:=h.store KE hv ht hn y hy v;unfold Oper.wp;simp [execOp,hop,hm,hx,hu,hrun,Result.andThen];have hs:w'.heap.size=w.heap.size:=by obtain⟨es,clock,es',clock',_,rfl⟩:=h2;simp [Go.ChangeMaps.setBlock]
 exact hK' _ _ (hK w' h1 h2.grown hs)
theorem wpList_trange(KE:KeyEnc P k kenc ok)(hgd:o.guard=none)(m:Operand)(t:TypeId)(hop:o.op=Op.range t m)(ht:P.underlying t=some (.map k e))
  (b n:Nat) (f:κ→Option ν) (hm:a.eval m=.map (some b)) (h:TMap P k kenc ok venc w b n f)
  (hK:∀ w' cnt,TRanges P k kenc ok venc w' b w.heap.size n f (fun x=>(f x).isSome) cnt→w.grownBy w' none→w'.heap.size=w.heap.size+1→wpList P ops Q rest (a.put o.dst (.pointer (some ⟨w.heap.size,0,none⟩))) w'):wpList P ops Q (o :: rest) a w:=by refine wpList_plain hgd fun K' hK' => ?_;obtain⟨w',cnt,hrun,r1,r2,r3⟩:=h.range KE ht;unfold Oper.wp;simp [execOp,hop,hm,hrun,Result.andThen];exact hK' _ _ (hK w' cnt r1 r2 r3)
theorem wpList_tnext[DecidableEq κ](KE:KeyEnc P k kenc ok)(hgd:o.guard=none)(it:Operand)(hop:o.op=Op.next it false)(b r n:Nat)(f:κ→Option ν)(left:κ→Bool)(cnt:Nat)
  (hit:a.eval it=.pointer (some ⟨r,0,none⟩)) (h:TRanges P k kenc ok venc w b r n f left cnt)
  (hDone:(∀ x,ok x→left x=false)→wpList P ops Q rest (a.put o.dst (.tuple #[.bool false])) w)
  (hMore:∀(x:κ) (v:ν) (w':World) (cnt':Nat),ok x→left x=true→f x=some v→TRanges P k kenc ok venc w' b r n f (fun y=>left y && !decide (y=x)) cnt'→cnt'<cnt→w.grownBy w' (some r)→w'.heap.size=w.heap.size →
   (Instr.entry (.pointer (some ⟨r,0,none⟩))).run P w'=.ok (.tuple #[kenc x,venc v]) w'→wpList P ops Q rest (a.put o.dst (.tuple #[.bool true,kenc x,venc v])) w'):wpList P ops Q (o :: rest) a w:=by
 refine wpList_plain hgd fun K' hK' => ?_;unfold Oper.wp;rcases h.next KE o.type with⟨_,hl,hrun⟩|⟨x,v,w',cnt',hx,hlx,hfx,hrun,hr,hlt,hg,hs,hen⟩
 · simp [execOp,hop,hit,hrun,Result.andThen];exact hK' _ _ (hDone hl)
 simp [execOp,hop,hit,hrun,Result.andThen];exact hK' _ _ (hMore x v w' cnt' hx hlx hfx hr hlt hg hs hen)
end
end Go.Proofs.YtjccmcgglfncdaaGreatDoor
namespace Go.Proofs.YtjccmcgglfncdaaGreatDoor
open Go Go.RowKit
variable{L:List PatchM}{i:Nat}{v:VidM}
def partP(p:PatchM)(k:Nat):PatchM:=⟨p.id,p.deps,p.ops.take k⟩
theorem part_all(p:PatchM):partP p p.ops.length=p:=by unfold partP;rw [List.take_length]
theorem makes_iff(k:UInt8):makesB k=true↔k=1∨k=2∨k=3:=by unfold makesB;simp
theorem take_succ'{α:Type}{xs:List α}{x:α}(h:xs[i]? = some x):xs.take (i+1)=xs.take i++[x]:=by rw [List.take_add_one,h];rfl
theorem any_take{p:PatchM}{o:OpM}(h:p.ops[i]? = some o)(f:OpM→Bool):(partP p (i+1)).ops.any f=((partP p i).ops.any f || f o):=by unfold partP;rw [take_succ' h];simp
theorem ofNat_n(h:i<256):(UInt8.ofNat i).toNat=i:=by simp;omega
section
variable {L : List PatchM} {p : PatchM} {i : Nat} {o : OpM}
theorem part_look(hn:hasM L p.id=false)(k:Nat)(v:VidM):vertOp (L++[partP p k]) v=if v.pid=p.id then madeBy (partP p k) v else vertOp L v:=look_op (p:=partP p k) hn v
theorem madeBy_part(k:Nat)(hv:v.pid=p.id):madeBy (partP p k) v=((p.ops.take k)[v.n.toNat]?).filter fun o=>makesB o.kind:=by unfold madeBy partP;rw [if_pos hv.symm]
theorem madeBy_step(ho:p.ops[i]? = some o)(hv:v.pid=p.id):madeBy (partP p (i+1)) v=if v.n.toNat=i then(if makesB o.kind=true then some o else none) else madeBy (partP p i) v:=by
 have hil:=(List.getElem?_eq_some_iff.1 ho).1;rw [madeBy_part _ hv,madeBy_part _ hv,take_succ' ho]
 by_cases h:v.n.toNat=i
 · rw [if_pos h,h,List.getElem?_append_right (by rw [List.length_take];omega),List.length_take,Nat.min_eq_left (by omega)];simp [Option.filter]
 rw [if_neg h]
 by_cases h2:v.n.toNat<i
 · rw [List.getElem?_append_left (by rw [List.length_take];omega)]
 have e1:(p.ops.take i++[o])[v.n.toNat]? = none:=by rw [List.getElem?_eq_none_iff];simp;omega
 have e2:(p.ops.take i)[v.n.toNat]? = none:=by rw [List.getElem?_eq_none_iff];simp;omega
 rw [e1,e2]
theorem own_alive(hw:WfG L)(hc:CheckOk L p){k:Nat}(hv:v.pid=p.id):deadM (L++[partP p k]) v=false:=by
 cases h:deadM (L++[partP p k]) v with
 | false=>rfl
 | true =>
  exfalso;rw [deadM_snoc,Bool.or_eq_true] at h;rcases h with h|h
  · obtain⟨q,hq,h⟩:=List.any_eq_true.1 h;obtain⟨o,ho,h⟩:=List.any_eq_true.1 h;simp at h;have:=hw.refs q hq o ho v (by rw [← h.2];exact refs_at_mem (by simp [h.1]));rw [hv,hc.new] at this;cases this
  ·
   obtain⟨o,ho,h⟩:=List.any_eq_true.1 h;simp at h;rcases kind_of hc.good (List.mem_of_mem_take ho) with h1|h1|h1|h1|⟨_,h1⟩
   iterate 4 (rw [h.1] at h1;exact absurd h1 (by decide))
   exact h1 (by rw [h.2];exact hv)
def madeV(p:PatchM)(i:Nat)(o:OpM):VertM:=⟨⟨p.id,UInt8.ofNat i⟩,o.kind,fileOf ⟨p.id,UInt8.ofNat i⟩ o,o.text,false⟩
theorem dead_step(ho:p.ops[i]? = some o)(v:VidM):deadM (L++[partP p (i+1)]) v=(deadM (L++[partP p i]) v || (decide (o.kind=5) && decide (o.at'=v))):=by rw [deadM_snoc,deadM_snoc,any_take ho,Bool.or_assoc]
theorem vert_zero:vertM (L++[partP p 0])=vertM L:=by
 funext v;unfold vertM;rw [vertOp_snoc,deadM_snoc];have:madeBy (partP p 0) v=none:=by unfold madeBy partP;simp
 rw [this];simp [partP]
theorem vert_makes(hw:WfG L)(hc:CheckOk L p)(hi:i<256)(ho:p.ops[i]? = some o)(hm:makesB o.kind=true):vertM (L++[partP p (i+1)])=updM (vertM (L++[partP p i])) ⟨p.id,UInt8.ofNat i⟩ (madeV p i o):=by
 funext v;have h5:¬ o.kind=5:=by rcases (makes_iff _).1 hm with h|h|h <;> rw [h] <;> decide
 unfold updM vertM
 by_cases hv:v=⟨p.id,UInt8.ofNat i⟩
 · subst hv;rw [if_pos rfl,part_look hc.new,if_pos rfl,madeBy_step ho rfl,if_pos (ofNat_n hi),if_pos hm];rw [own_alive hw hc rfl];rfl
 rw [if_neg hv,part_look hc.new,part_look hc.new,dead_step ho];have:(decide (o.kind=5) && decide (o.at'=v))=false:=by simp [h5]
 rw [this,Bool.or_false]
 by_cases hp:v.pid=p.id
 ·
  rw [if_pos hp,if_pos hp,madeBy_step ho hp,if_neg];intro e;apply hv;cases v
  simp only at hp e;subst hp;congr 1;exact UInt8.toNat_inj.1 (by rw [e,ofNat_n hi])
 rw [if_neg hp,if_neg hp]
theorem vert_still(hc:CheckOk L p)(ho:p.ops[i]? = some o)(hm:makesB o.kind=false)(v:VidM):vertOp (L++[partP p (i+1)]) v=vertOp (L++[partP p i]) v:=by
 rw [part_look hc.new,part_look hc.new]
 by_cases hp:v.pid=p.id
 ·
  rw [if_pos hp,if_pos hp,madeBy_step ho hp];split
  · rename_i e;have hil:=(List.getElem?_eq_some_iff.1 ho).1;rw [hm,madeBy_part _ hp];have:(p.ops.take i)[v.n.toNat]? = none:=(by rw [List.getElem?_eq_none_iff];simp;omega);rw [this];rfl
  rfl
 rw [if_neg hp,if_neg hp]
theorem vert_edge(hc:CheckOk L p)(ho:p.ops[i]? = some o)(h4:o.kind=4):vertM (L++[partP p (i+1)])=vertM (L++[partP p i]):=by
 funext v;unfold vertM;rw [vert_still hc ho (by rw [h4];decide),dead_step ho];have:(decide (o.kind=5) && decide (o.at'=v))=false:=by simp [h4]
 rw [this,Bool.or_false]
def killV(x:VertM):VertM:={x with dead:=true}
theorem kill_there(hc:CheckOk L p)(ho:p.ops[i]? = some o)(h5:o.kind=5):∃ x,vertM (L++[partP p i]) o.at'=some x:=by
 have hmem:=List.mem_of_getElem? ho;have hr:=hc.refs o hmem;rcases kind_of hc.good hmem with h1|h1|h1|h1|⟨_,h1⟩
 iterate 4 (rw [h5] at h1;exact absurd h1 (by decide))
 unfold refMet at hr;simp only [h5] at hr;rw [if_neg (by decide),if_neg (by decide),if_neg (by decide),vertM_isSome,look_op hc.new,if_neg h1] at hr;unfold vertM;rw [part_look hc.new,if_neg h1];cases hx:vertOp L o.at' with
 | none=>rw [hx] at hr;cases hr
 | some y=>exact⟨_,rfl⟩
theorem vert_kill(hc:CheckOk L p)(ho:p.ops[i]? = some o)(h5:o.kind=5){x:VertM}(hx:vertM (L++[partP p i]) o.at'=some x):vertM (L++[partP p (i+1)])=updM (vertM (L++[partP p i])) o.at' (killV x):=by
 funext v;unfold updM;have hs:=vert_still hc ho (by rw [h5];decide) v
 by_cases hv:v=o.at'
 ·
  subst hv;rw [if_pos rfl];unfold vertM at hx ⊢;rw [hs,dead_step ho];have:(decide (o.kind=5) && decide (o.at'=o.at'))=true:=by simp [h5]
  rw [this,Bool.or_true];cases hv:vertOp (L++[partP p i]) o.at' with
  | none=>rw [hv] at hx;cases hx
  | some y=>rw [hv] at hx;cases hx;rfl
 rw [if_neg hv];unfold vertM;rw [hs,dead_step ho];have:(decide (o.kind=5) && decide (o.at'=v))=false:=by simp;intro _ e;exact hv e.symm
 rw [this,Bool.or_false]
def hasE(L:List PatchM)(e:EdgeM):Bool:=L.any fun p=>p.ops.any fun o=>decide (o.kind=4) && (decide (o.at'=e.1) && decide (o.to=e.2))
def fileAt(L:List PatchM)(v:VidM):VidM:=((vertM L v).map (·.file)).getD noVid
def edgeM(L:List PatchM)(e:EdgeM):Option VidM:=if hasE L e=true then some (fileAt L e.1) else none
theorem hasE_snoc(L:List PatchM)(p:PatchM)(e:EdgeM):hasE (L++[p]) e=(hasE L e || p.ops.any fun o=>decide (o.kind=4) && (decide (o.at'=e.1) && decide (o.to=e.2))):=by unfold hasE;simp
theorem hasE_step(ho:p.ops[i]? = some o)(e:EdgeM):hasE (L++[partP p (i+1)]) e=(hasE (L++[partP p i]) e || (decide (o.kind=4) && (decide (o.at'=e.1) && decide (o.to=e.2)))):=by rw [hasE_snoc,hasE_snoc,any_take ho,Bool.or_assoc]
theorem edge_zero:edgeM (L++[partP p 0])=edgeM L:=by funext e;unfold edgeM fileAt;rw [vert_zero,hasE_snoc];simp [partP]
theorem edge_makes(hw:WfG L)(hc:CheckOk L p)(hi:i<256)(ho:p.ops[i]? = some o)(hm:makesB o.kind=true):edgeM (L++[partP p (i+1)])=edgeM (L++[partP p i]):=by
 funext e;unfold edgeM;have h4:¬ o.kind=4:=by rcases (makes_iff _).1 hm with h|h|h <;> rw [h] <;> decide
 rw [hasE_step ho];have:(decide (o.kind=4) && (decide (o.at'=e.1) && decide (o.to=e.2)))=false:=by simp [h4]
 rw [this,Bool.or_false];split;rotate_left
 · rfl
 rename_i hE;unfold fileAt;rw [vert_makes hw hc hi ho hm,updM,if_neg];intro he;rw [hasE_snoc,Bool.or_eq_true] at hE;rcases hE with h|h
 · obtain⟨q,hq,h⟩:=List.any_eq_true.1 h;obtain⟨o',ho',h⟩:=List.any_eq_true.1 h;simp at h;have:=hw.refs q hq o' ho' e.1 (by rw [← h.2.1];exact refs_at_mem (by simp [h.1]));rw [he,hc.new] at this;cases this
 obtain⟨o',ho',h⟩:=List.any_eq_true.1 h;simp at h;obtain⟨j,hj⟩:=List.mem_iff_getElem?.1 ho';have hj':p.ops[j]? = some o'∧j<i:=by
  have hlt:j<i:=by have:=(List.getElem?_eq_some_iff.1 hj).1;simp only [partP,List.length_take] at this;omega
  simp only [partP] at hj;rw [List.getElem?_take,if_pos hlt] at hj;exact⟨hj,hlt⟩
 have:=(opGood_refs (oneB_parts (goodP_one hc.good hj'.1)).1 (v:=e.1) (by rw [← h.2.1];exact refs_at_mem (by simp [h.1]))).2 (by rw [he]);rw [he] at this;simp only at this;rw [ofNat_n hi] at this;omega
theorem edge_kill(hc:CheckOk L p)(ho:p.ops[i]? = some o)(h5:o.kind=5):edgeM (L++[partP p (i+1)])=edgeM (L++[partP p i]):=by
 funext e;unfold edgeM;rw [hasE_step ho];have:(decide (o.kind=4) && (decide (o.at'=e.1) && decide (o.to=e.2)))=false:=by simp [h5]
 rw [this,Bool.or_false];have:fileAt (L++[partP p (i+1)]) e.1=fileAt (L++[partP p i]) e.1:=by unfold fileAt vertM;rw [vert_still hc ho (by rw [h5];decide)];cases vertOp (L++[partP p i]) e.1 <;> rfl
 rw [this]
theorem edge_edge(hc:CheckOk L p)(ho:p.ops[i]? = some o)(h4:o.kind=4):edgeM (L++[partP p (i+1)])=updM (edgeM (L++[partP p i])) (o.at',o.to) (fileAt (L++[partP p i]) o.at'):=by
 funext e;unfold edgeM updM;rw [hasE_step ho];have hf:fileAt (L++[partP p (i+1)]) e.1=fileAt (L++[partP p i]) e.1:=by unfold fileAt;rw [vert_edge hc ho h4]
 rw [hf]
 by_cases he:e=(o.at',o.to)
 · subst he;rw [if_pos (by simp [h4]),if_pos rfl]
 rw [if_neg he];have:(decide (o.kind=4) && (decide (o.at'=e.1) && decide (o.to=e.2)))=false:=by simp;intro _ e1 e2;exact he (by rw [e1,e2])
 rw [this,Bool.or_false]
end
def idsOf(L:List PatchM):List VidM:=L.flatMap fun p=>(List.range p.ops.length).filterMap fun k=>match p.ops[k]? with|some o=>if makesB o.kind=true then some ⟨p.id,UInt8.ofNat k⟩ else none|none=>none
def idsM(L:List PatchM):List VidM:=setS packVid (idsOf L)
def vertsM(L:List PatchM):List VertM:=(idsM L).map fun v=>(vertM L v).getD noVert
theorem packVid_hi(a b:VidM)(h:packVid a=packVid b):a=b:=packVid_inj h
theorem vertM_id{x:VertM}(h:vertM L v=some x):x.id=v:=by
 unfold vertM at h;cases ho:vertOp L v with
 | none=>rw [ho] at h;cases h
 | some o=>rw [ho] at h;cases h;rfl
theorem mem_idsOf(hl:∀ p∈L,p.ops.length≤200)(v:VidM):v∈idsOf L↔(vertM L v).isSome=true:=by
 rw [vertM_isSome];unfold idsOf vertOp;rw [List.findSome?_isSome_iff,List.mem_flatMap];constructor
 ·
  rintro⟨p,hp,h⟩;refine⟨p,hp,?_⟩;obtain⟨k,hk,h⟩:=List.mem_filterMap.1 h;have hk:=List.mem_range.1 hk;have hpl:=hl p hp;cases ho:p.ops[k]? with
  | none=>rw [ho] at h;cases h
  | some o =>
   rw [ho] at h;simp only at h;split at h
   ·
    rename_i hm;cases h
    unfold madeBy;rw [if_pos rfl];simp only [ofNat_n (show k<256 by omega),ho];simp [Option.filter,hm]
   cases h
 rintro⟨p,hp,h⟩;refine⟨p,hp,?_⟩;unfold madeBy at h;split at h
 ·
  rename_i hid;cases ho:p.ops[v.n.toNat]? with
  | none=>rw [ho] at h;cases h
  | some o =>
   rw [ho] at h;have hm:makesB o.kind=true:=by
    cases hm:makesB o.kind with
    | true=>rfl
    | false=>simp [Option.filter,hm] at h
   refine List.mem_filterMap.2 ⟨v.n.toNat,List.mem_range.2 (List.getElem?_eq_some_iff.1 ho).1,?_⟩;rw [ho];simp only [hm,if_pos];cases v
   simp only at hid;simp [hid]
 cases h
theorem mem_idsM(hl:∀ p∈L,p.ops.length≤200)(v:VidM):v∈idsM L↔(vertM L v).isSome=true:=(mem_setS packVid_hi _ _).trans (mem_idsOf hl v)
theorem wf_len(hw:WfG L):∀ p∈L,p.ops.length≤200:=fun p hp=>(goodP_len (hw.good p hp)).2
theorem mem_vertsM(hl:∀ p∈L,p.ops.length≤200)(x:VertM):x∈vertsM L↔vertM L x.id=some x:=by
 unfold vertsM;rw [List.mem_map];constructor
 ·
  rintro⟨v,hv,rfl⟩;rw [mem_idsM hl] at hv;cases hx:vertM L v with
  | none=>rw [hx] at hv;cases hv
  | some x=>simp only [Option.getD_some];rw [vertM_id hx];exact hx
 intro h;exact⟨x.id,(mem_idsM hl _).2 (by rw [h];rfl),by rw [h];rfl⟩
def vertKey(x:VertM):Nat:=packVid x.id
theorem rises_vertsM(hl:∀ p∈L,p.ops.length≤200):Rises vertKey (vertsM L):=by
 unfold vertsM Rises;rw [List.pairwise_map];have hr:Rises packVid (idsM L):=rises_setS packVid_hi _;unfold Rises at hr;refine List.Pairwise.imp_of_mem (fun {a b} ha hb h => ?_) hr;have e:∀ v∈idsM L,vertKey ((vertM L v).getD noVert)=packVid v:=fun v hv=>by
  rw [mem_idsM hl] at hv;cases hx:vertM L v with
  | none=>rw [hx] at hv;cases hv
  | some x=>simp only [Option.getD_some,vertKey,vertM_id hx]
 rw [e a ha,e b hb];exact h
theorem verts_eq(hl:∀ p∈L,p.ops.length≤200)(f:VertM→Bool){out:List VertM}(hr:Rises vertKey out)(hm:∀ x,x∈out↔vertM L x.id=some x∧f x=true):out=(vertsM L).filter f:=by refine rises_ext hr ((rises_vertsM hl).filter f) fun x => ?_;rw [hm,List.mem_filter,mem_vertsM hl]
def ofM(L:List PatchM)(file:VidM)(kind:UInt8):List VertM:=(vertsM L).filter fun v=>decide (v.kind=kind) && decide (v.file=file)
def filesM(L:List PatchM):List VidM:=((vertsM L).filter fun v=>decide (v.kind=1)).map (·.id)
def edgeKey(e:EdgeM):Nat:=packVid e.1*4294967296+packVid e.2
theorem edgeKey_hi(a b:EdgeM)(h:edgeKey a=edgeKey b):a=b:=by
 obtain⟨a1,a2⟩:=a;obtain⟨b1,b2⟩:=b;have h1:=packVid_lt a2;have h2:=packVid_lt b2;unfold edgeKey at h;simp only at h;have e1:packVid a1=packVid b1:=by omega
 have e2:packVid a2=packVid b2:=by omega
 rw [packVid_inj e1,packVid_inj e2]
def edgesOf(L:List PatchM):List EdgeM:=L.flatMap fun p=>p.ops.filterMap fun o=>if o.kind=4 then some (o.at',o.to) else none
def edgesM(L:List PatchM):List EdgeM:=setS edgeKey (edgesOf L)
theorem mem_edgesOf(L:List PatchM)(e:EdgeM):e∈edgesOf L↔hasE L e=true:=by
 unfold edgesOf hasE;rw [List.mem_flatMap,List.any_eq_true];constructor
 ·
  rintro⟨p,hp,h⟩;obtain⟨o,ho,h⟩:=List.mem_filterMap.1 h;split at h
  ·
   rename_i h4;cases h
   exact⟨p,hp,List.any_eq_true.2 ⟨o,ho,by simp [h4]⟩⟩
  cases h
 rintro⟨p,hp,h⟩;obtain⟨o,ho,h⟩:=List.any_eq_true.1 h;simp at h;exact⟨p,hp,List.mem_filterMap.2 ⟨o,ho,by rw [if_pos h.1,h.2.1,h.2.2]⟩⟩
theorem mem_edgesM(L:List PatchM)(e:EdgeM):e∈edgesM L↔hasE L e=true:=(mem_setS edgeKey_hi _ _).trans (mem_edgesOf L e)
theorem edges_eq(f:VidM→Bool){out:List EdgeM}(hr:Rises edgeKey out)(hm:∀ e,e∈out↔∃ v,edgeM L e=some v∧f v=true):out=(edgesM L).filter fun e=>f (fileAt L e.1):=by
 refine rises_ext hr (List.Pairwise.filter _ (rises_setS edgeKey_hi _)) fun e => ?_;rw [hm,List.mem_filter,mem_edgesM];unfold edgeM;constructor
 ·
  rintro⟨v,h1,h2⟩;split at h1
  · rename_i h;cases h1;exact⟨h,h2⟩
  cases h1
 rintro⟨h1,h2⟩;exact⟨_,by rw [if_pos h1],h2⟩
def stepsM(L:List PatchM)(file:VidM):List EdgeM:=(edgesM L).filter fun e=>decide (fileAt L e.1=file)
end Go.Proofs.YtjccmcgglfncdaaGreatDoor
namespace Go.Proofs.YtjccmcgglfncdaaGreatDoor
variable{l:List VertM}
def placeM(l:List VertM)(v:VidM):Nat:=(l.map (·.id)).idxOf v
theorem place_get{v:VidM}(h:v∈l.map (·.id)):∃ x,l[placeM l v]? = some x∧x.id=v:=by
 have hlt:placeM l v<(l.map (·.id)).length:=List.idxOf_lt_length_of_mem h;have h1:(l.map (·.id))[placeM l v]? = some v:=by rw [List.getElem?_eq_getElem hlt];exact congrArg some (List.getElem_idxOf hlt)
 rw [List.getElem?_map] at h1;cases hx:l[placeM l v]? with
 | none=>rw [hx] at h1;cases h1
 | some x=>rw [hx] at h1;exact⟨x,rfl,Option.some.inj h1⟩
theorem place_lt{v:VidM}(h:v∈l.map (·.id)):placeM l v<l.length:=by obtain⟨x,hx,_⟩:=place_get h;exact(List.getElem?_eq_some_iff.1 hx).1
theorem place_at(hn:(l.map (·.id)).Nodup){k:Nat}{x:VertM}(hx:l[k]? = some x):placeM l x.id=k:=by
 have h1:x.id∈l.map (·.id):=List.mem_map.2 ⟨x,List.mem_of_getElem? hx,rfl⟩;obtain⟨y,hy,hyx⟩:=place_get h1;have h2:(l.map (·.id))[placeM l x.id]? = some x.id:=by rw [List.getElem?_map,hy];exact congrArg some hyx
 have h3:(l.map (·.id))[k]? = some x.id:=by rw [List.getElem?_map,hx];rfl
 exact(List.getElem?_inj (List.getElem?_eq_some_iff.1 h2).1 hn).1 (h2.trans h3.symm)
def linesM(L:List PatchM)(file:VidM):List VertM:=ofM L file 3
def relM(L:List PatchM)(file:VidM):List (Nat × Nat):=(stepsM L file).map fun e=>(placeM (linesM L file) e.1,placeM (linesM L file) e.2)
theorem step_ends{L:List PatchM}(hw:WfG L)(hl:∀ p∈L,p.ops.length≤200){file:VidM}{e:EdgeM}(he:e∈stepsM L file):e.1∈(linesM L file).map (·.id)∧e.2∈(linesM L file).map (·.id):=by
 unfold stepsM at he;obtain⟨he1,he2⟩:=List.mem_filter.1 he;simp only [decide_eq_true_eq] at he2;rw [mem_edgesM] at he1;unfold hasE at he1;obtain⟨p,hp,h2⟩:=List.any_eq_true.1 he1;obtain⟨o,ho,h3⟩:=List.any_eq_true.1 h2;simp only [Bool.and_eq_true,decide_eq_true_eq] at h3;obtain⟨h4,h5,h6⟩:=h3;have hk:=hw.kinds p hp o ho;unfold refMet at hk;rw [if_neg (by rw [h4];decide),if_neg (by rw [h4];decide),if_pos h4,h5,h6] at hk;simp only [Bool.and_eq_true,decide_eq_true_eq] at hk;obtain⟨k1,k2,k3⟩:=hk;have key:∀ v,isKind L v 3=true→fileAt L v=file→v∈(linesM L file).map (·.id):=by
  intro v hv hf;unfold isKind at hv;cases hx:vertM L v with
  | none=>rw [hx] at hv;cases hv
  | some x =>rw [hx] at hv;have hk3:x.kind=3:=(by simpa using hv);have hfx:x.file=file:=(by unfold fileAt at hf;rw [hx] at hf;exact hf);have hid:=vertM_id hx;refine List.mem_map.2 ⟨x,?_,hid⟩;unfold linesM ofM vertsM;refine List.mem_filter.2 ⟨List.mem_map.2 ⟨v,?_,by rw [hx];rfl⟩,by simp [hk3,hfx]⟩;rw [mem_idsM hl,hx];rfl
 refine⟨key _ k1 he2,key _ k2 ?_⟩;have h7:fileAt L e.1=fileAt L e.2:=by unfold fileAt;rw [k3]
 rw [← h7];exact he2
theorem relM_lt{L:List PatchM}(hw:WfG L)(hl:∀ p∈L,p.ops.length≤200)(file:VidM):∀ s∈relM L file,s.1<(linesM L file).length∧s.2<(linesM L file).length:=by intro s hs;unfold relM at hs;obtain⟨e,he,rfl⟩:=List.mem_map.1 hs;obtain⟨h1,h2⟩:=step_ends hw hl he;exact⟨place_lt h1,place_lt h2⟩
def deadLine(l:List VertM)(i:Nat):Bool:=match l[i]? with|some x=>x.dead|none=>true
def FirmP(R:List (Nat × Nat))(n i:Nat):Prop:=i<n∧∀ j,j<n→j≠i→¬ AlikeP R i j
def keptTo(firm:List Nat)(ps:List (Nat × Nat))(m:Nat):List Int:=ps.foldl (fun out x=>out.set x.2 ((firm.getD x.1 0:Nat):Int)) (List.replicate m (-1))
def killsE(l:List VertM)(alive:List Nat)(kept:List Int):List OpM:=(alive.filter fun(i:Nat) => !kept.contains (Int.ofNat i)).map fun i=>⟨5,(l.getD i noVert).id,noVid,⟨#[]⟩⟩
def stepA(l:List VertM)(file:VidM)(id:PidM)(from':Nat)(s:List OpM × List VidM)(x:Int × ByteArray):List OpM × List VidM:=
 if 0≤x.1 then(s.1,s.2++[(l.getD x.1.toNat noVert).id]) else(s.1++[⟨3,file,noVid,x.2⟩],s.2++[⟨id,UInt8.ofNat (from'+s.1.length)⟩])
def addsTo(l:List VertM)(file:VidM)(id:PidM)(from':Nat)(kept:List Int)(want:List ByteArray)(ks:List OpM)(j:Nat):List OpM × List VidM:=((kept.zip want).take j).foldl (stepA l file id from') (ks,[])
open Classical in
noncomputable def edgesE(R:List (Nat × Nat))(kept:List Int)(at':List VidM)(j:Nat):List OpM:=
 if 0<j∧(kept.getD (j - 1) 0<0∨kept.getD j 0<0∨¬ BeforeP R (kept.getD (j - 1) 0).toNat (kept.getD j 0).toNat) then [⟨4,at'.getD (j - 1) noVid,at'.getD j noVid,⟨#[]⟩⟩] else []
noncomputable def editM(l:List VertM)(R:List (Nat × Nat))(alive firm:List Nat)(file:VidM)(id:PidM)(from':Nat)(want:List ByteArray)(ps:List (Nat × Nat)):List OpM:=
 let kept:=keptTo firm ps want.length
 let s:=addsTo l file id from' kept want (killsE l alive kept) want.length
 s.1++(List.range want.length).flatMap (edgesE R kept s.2)
end Go.Proofs.YtjccmcgglfncdaaGreatDoor
