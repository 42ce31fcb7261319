/- What is proved: PlanTwo, for every input; of the listed tables the walk needs the powers of ten. -/
import Derived.Test.YtjccmcgglfncdaaGreatDoorTBase
import Derived.Maps.RangeWalk
import Derived.DeepKeys4
set_option linter.unusedVariables false
set_option linter.unusedSimpArgs false
namespace Go.Proofs.YtjccmcgglfncdaaGreatDoor
open Go Go.RowKit Go.WideElems
open Go.Maps (Keyed)
variable{b cnt n r:Nat}{e t:TypeId}{w w':World}
section
variable {P : Program} {k : TypeId} {κ ν : Type} {kenc : κ → Value} {ok : κ → Prop} {venc : ν → Value}
structure KeyEnc (P:Program) (k:TypeId) (kenc:κ→Value) (ok:κ→Prop):Prop where
 keyed:Keyed P k
 reads:∀ x,ok x→∃ l,keyOf P k (kenc x)=some l
 inj:∀ x y,kenc x=kenc y→x=y
open Classical in
noncomputable def rdr(venc:ν→Value)(v:Value):Option (DataW ν × List MemPlace):=if h:∃ x,venc x=v then some (.held h.choose,[]) else none
theorem rdr_mk(hv:∀ x y,venc x=venc y→x=y)(x:ν):rdr venc (venc x)=some (.held x,[]):=by have h:∃ y,venc y=venc x:=⟨x,rfl⟩;unfold rdr;rw [dif_pos h,hv _ _ h.choose_spec]
theorem rdr_inv{v:Value}{y:DataW ν × List MemPlace}(h:rdr venc v=some y):∃ x,v=venc x∧y.1=.held x:=by
 unfold rdr at h;split at h
 ·
  rename_i hx;cases h
  exact⟨hx.choose,hx.choose_spec.symm,rfl⟩
 cases h
structure Holds (P:Program) (k:TypeId) (kenc:κ→Value) (ok:κ→Prop) (D:DataW ν) (f:κ→Option ν):Prop where
 at':∀ x,ok x→∀ l,keyOf P k (kenc x)=some l→Maps.has D l=(f x).isSome∧∀ v,f x=some v→∀ z,D.atKey l z=.held v
 from':∀ l,Maps.has D l=true→∃ x,ok x∧keyOf P k (kenc x)=some l
def TMap(P:Program)(k:TypeId)(kenc:κ→Value)(ok:κ→Prop)(venc:ν→Value)(w:World)(b n:Nat)(f:κ→Option ν):Prop:=
 ∃ D:DataW ν,w.ownsMap P k (rdr venc) b n D∧Holds P k kenc ok D f
theorem TMap.made(w:World):TMap P k kenc ok venc (w.alloc (.map #[] 0)) w.heap.size 0 (fun _=>none):=
 ⟨.map [],World.ownsMap_made w P k _,⟨fun _ _ _ _=>⟨rfl,fun _ h=>by cases h⟩,fun _ h=>by cases h⟩⟩
theorem TMap.lt{f:κ→Option ν}(h:TMap P k kenc ok venc w b n f):b<w.heap.size:=by obtain⟨D,h,_⟩:=h;exact h.lt
theorem TMap.kept{f:κ→Option ν}{row:Option Nat}(h:TMap P k kenc ok venc w b n f)(hg:w.grownBy w' row)(hne:some b≠row):TMap P k kenc ok venc w' b n f:=by obtain⟨D,h,hH⟩:=h;exact⟨D,h.kept hg hne,hH⟩
theorem TMap.over{f:κ→Option ν}(h:TMap P k kenc ok venc w b n f)(hb:Be w w'):TMap P k kenc ok venc w' b n f:=
 h.kept (row:=none) ⟨hb.os,hb.tape,hb.output,hb.size,fun i hi _=>hb.block i hi⟩ (by simp)
theorem TMap.alloc{f:κ→Option ν}(h:TMap P k kenc ok venc w b n f)(o:Obj):TMap P k kenc ok venc (w.alloc o) b n f:=by obtain⟨D,h,hH⟩:=h;exact⟨D,h.alloc o,hH⟩
theorem TMap.drew{f:κ→Option ν}(h:TMap P k kenc ok venc w b n f):TMap P k kenc ok venc w.drew b n f:=h
theorem TMap.mono{n':Nat}{f:κ→Option ν}(h:TMap P k kenc ok venc w b n f)(hn:n≤n'):TMap P k kenc ok venc w b n' f:=by obtain⟨D,h,hH⟩:=h;exact⟨D,h.mono hn,hH⟩
theorem TMap.congr{f g:κ→Option ν}(h:TMap P k kenc ok venc w b n f)(hfg:∀ x,ok x→f x=g x):TMap P k kenc ok venc w b n g:=by obtain⟨D,h,hH⟩:=h;exact⟨D,h,⟨fun x hx l hl=>by rw [← hfg x hx];exact hH.at' x hx l hl,hH.from'⟩⟩
theorem TMap.lookup(KE:KeyEnc P k kenc ok)(hv:∀ x y,venc x=venc y→x=y){f:κ→Option ν}(h:TMap P k kenc ok venc w b n f)(ht:P.underlying t=some (.map k e)){zv:ν}
  (hz:(zeroValue e).run P w=.ok (venc zv) w) (x:κ) (hx:ok x):(Instr.lookup t (.map (some b)) (kenc x) false).run P w=.ok (venc ((f x).getD zv)) w:=by
 obtain⟨D,h,hH⟩:=h;obtain⟨l,hl⟩:=KE.reads x hx;obtain⟨v,ps,h1,h2⟩:=h.lookup KE.keyed ht hz (rdr_mk hv zv) hl;obtain⟨u,rfl,h3⟩:=rdr_inv h2;rw [h1];obtain⟨h4,h5⟩:=hH.at' x hx l hl;cases hf:f x with
 | none =>rw [hf] at h4;rw [Maps.atKey_of_not_has h4] at h3;cases h3;rfl
 | some y =>rw [h5 y hf] at h3;cases h3;rfl
theorem TMap.look_ok(KE:KeyEnc P k kenc ok)(hv:∀ x y,venc x=venc y→x=y){f:κ→Option ν}(h:TMap P k kenc ok venc w b n f)(ht:P.underlying t=some (.map k e)){zv:ν}
  (hz:(zeroValue e).run P w=.ok (venc zv) w) (x:κ) (hx:ok x):(Instr.lookup t (.map (some b)) (kenc x) true).run P w=.ok (.tuple #[venc ((f x).getD zv),.bool (f x).isSome]) w:=by
 obtain⟨D,h,hH⟩:=h;obtain⟨l,hl⟩:=KE.reads x hx;obtain⟨v,ps,h1,h2⟩:=h.look_ok KE.keyed ht hz (rdr_mk hv zv) hl;obtain⟨u,rfl,h3⟩:=rdr_inv h2;obtain⟨h4,h5⟩:=hH.at' x hx l hl;rw [h1,h4];cases hf:f x with
 | none =>rw [hf] at h4;rw [Maps.atKey_of_not_has h4] at h3;cases h3;rfl
 | some y =>rw [h5 y hf] at h3;cases h3;rfl
def updM[DecidableEq κ](f:κ→Option ν)(x:κ)(v:ν):κ→Option ν:=fun y=>if y=x then some v else f y
theorem Holds.put[DecidableEq κ](KE:KeyEnc P k kenc ok){D:DataW ν}{f:κ→Option ν}(hD:Maps.IsMap D)(h:Holds P k kenc ok D f){x:κ}(hx:ok x){l:Lit}(hl:keyOf P k (kenc x)=some l)(v:ν):Holds P k kenc ok (D.put l (.held v)) (updM f x v):=by
 have hk:=KE.keyed.key hl;refine⟨fun y hy l' hl' => ?_,fun l' hl' => ?_⟩
 ·
  unfold updM
  by_cases hxy:y=x
  · subst hxy;have:l'=l:=(by rw [hl] at hl';exact(Option.some.inj hl').symm);subst this;rw [if_pos rfl];exact⟨by rw [Maps.has_put_same hD hk];rfl,fun u hu z=>by cases hu;exact Maps.atKey_put_same hD hk _ _⟩
  have hne:l'≠l:=fun e=>hxy (KE.inj _ _ (KE.keyed.inj hl' (e▸hl)));rw [if_neg hxy];obtain⟨h1,h2⟩:=h.at' y hy l' hl';exact⟨by rw [Maps.has_put_other hne];exact h1,fun u hu z=>by rw [Maps.atKey_put_other hne];exact h2 u hu z⟩
 by_cases hne:l'=l
 · exact⟨x,hx,hne▸hl⟩
 rw [Maps.has_put_other hne] at hl';exact h.from' l' hl'
theorem TMap.store[DecidableEq κ](KE:KeyEnc P k kenc ok)(hv:∀ x y,venc x=venc y→x=y){f:κ→Option ν}(h:TMap P k kenc ok venc w b n f)(ht:P.underlying t=some (.map k e))(hn:n<maxLen)(x:κ)(hx:ok x)(v:ν) :
  ∃ w',(Instr.mapUpdate t (.map (some b)) (kenc x) (venc v)).run P w=.ok () w'∧TMap P k kenc ok venc w' b (n+1) (updM f x v)∧w.mapTurned w' b:=by obtain⟨D,h,hH⟩:=h;obtain⟨l,hl⟩:=KE.reads x hx;obtain⟨w',h1,h2,h3⟩:=h.store KE.keyed ht hn hl (rdr_mk hv v);exact⟨w',h1,⟨_,h2,hH.put KE h.isMap hx hl v⟩,h3⟩
def TRanges(P:Program)(k:TypeId)(kenc:κ→Value)(ok:κ→Prop)(venc:ν→Value)(w:World)(b r n:Nat)(f:κ→Option ν)(left:κ→Bool)(cnt:Nat):Prop:=
 ∃(D:DataW ν) (lf:Lit→Bool),w.ranges P k (rdr venc) b r n D lf cnt∧Holds P k kenc ok D f∧(∀ x,ok x→∀ l,keyOf P k (kenc x)=some l→lf l=left x)∧∀ l,lf l=true→Maps.has D l=true
theorem TRanges.kept{f:κ→Option ν}{left:κ→Bool}{row:Option Nat}(h:TRanges P k kenc ok venc w b r n f left cnt)(hg:w.grownBy w' row)(hb:some b≠row)(hr:some r≠row):TRanges P k kenc ok venc w' b r n f left cnt:=by obtain⟨D,lf,h,hH,h1,h2⟩:=h;exact⟨D,lf,h.kept hg hb hr,hH,h1,h2⟩
theorem TRanges.left_eq{f:κ→Option ν}{left:κ→Bool}(h:TRanges P k kenc ok venc w b r n f left cnt):w.rangeLeft b r=cnt:=by obtain⟨D,lf,h,_⟩:=h;exact h.left_eq
theorem TMap.range{f:κ→Option ν}(KE:KeyEnc P k kenc ok)(h:TMap P k kenc ok venc w b n f)(ht:P.underlying t=some (.map k e)) :
  ∃ w' cnt,(Instr.range t (.map (some b))).run P w=.ok (.pointer (some ⟨w.heap.size,0,none⟩)) w'∧TRanges P k kenc ok venc w' b w.heap.size n f (fun x=>(f x).isSome) cnt∧w.grownBy w' none∧w'.heap.size=w.heap.size+1:=by obtain⟨D,h,hH⟩:=h;obtain⟨w',h1,h2,h3,h4⟩:=h.range KE.keyed ht;exact⟨w',_,h1,⟨D,_,h2,hH,fun x hx l hl=>(hH.at' x hx l hl).1,fun l hl=>hl⟩,h3,h4⟩
theorem TRanges.next[DecidableEq κ](KE:KeyEnc P k kenc ok){f:κ→Option ν}{left:κ→Bool}(h:TRanges P k kenc ok venc w b r n f left cnt)(ty:TypeId) :
  (cnt=0∧(∀ x,ok x→left x=false)∧(Instr.next (.pointer (some ⟨r,0,none⟩)) false ty).run P w=.ok (.tuple #[.bool false]) w) ∨
  ∃ x v w' cnt',ok x∧left x=true∧f x=some v∧(Instr.next (.pointer (some ⟨r,0,none⟩)) false ty).run P w=.ok (.tuple #[.bool true,kenc x,venc v]) w' ∧
   TRanges P k kenc ok venc w' b r n f (fun y=>left y && !decide (y=x)) cnt'∧cnt'<cnt∧w.grownBy w' (some r)∧w'.heap.size=w.heap.size∧(Instr.entry (.pointer (some ⟨r,0,none⟩))).run P w'=.ok (.tuple #[kenc x,venc v]) w':=by
 obtain⟨D,lf,h,hH,hl1,hl2⟩:=h;rcases h.next KE.keyed ty with⟨h0,h1,h2⟩|⟨key,v,kl,y,w',cnt',hk,hlf,hRv,hat,hrun,hr',hlt,hg,hs,hen⟩
 · exact .inl ⟨h0,fun x hx=>by obtain⟨l,hl⟩:=KE.reads x hx;rw [← hl1 x hx l hl];exact h1 l,h2⟩
 obtain⟨x,hx,hxl⟩:=hH.from' kl (hl2 kl hlf);obtain rfl:=KE.keyed.inj hk hxl;obtain⟨u,rfl,hu⟩:=rdr_inv hRv;obtain⟨h4,h5⟩:=hH.at' x hx kl hxl;have hfx:f x=some u:=by
  cases hf:f x with
  | none =>rw [hf,hl2 kl hlf] at h4;simp at h4
  | some y' =>have:=h5 y' hf .nil;rw [hat,hu] at this;cases this;rfl
 refine .inr ⟨x,u,w',cnt',hx,by rw [← hl1 x hx kl hxl];exact hlf,hfx,hrun,⟨D,_,hr',hH,fun z hz l hl => ?_,fun l hl=>hl2 l (by simp at hl;exact hl.1)⟩,hlt,hg,hs,hen⟩;simp only;rw [hl1 z hz l hl]
 by_cases hzx:z=x
 ·
  subst hzx;have:l=kl:=by rw [hxl] at hl;exact(Option.some.inj hl).symm
  subst this;rw [WideAt.sameKey_self (KE.keyed.key hxl)];simp
 have:l≠kl:=fun e=>hzx (KE.inj _ _ (KE.keyed.inj hl (e▸hxl)));rw [Maps.sameKey_ne this];simp [hzx]
variable {w : World} {ops : Array Oper} {rest : List Oper} {o : Oper} {a : Act} {Q : Exit → Act → World → Prop}
theorem wpList_tlook(KE:KeyEnc P k kenc ok)(hv:∀ x y,venc x=venc y→x=y)(hgd:o.guard=none)(m x:Operand)(t:TypeId)(hop:o.op=Op.lookup t m x false)(ht:P.underlying t=some (.map k e))(zv:ν)
  (hz:(zeroValue e).run P w=.ok (venc zv) w) (b n:Nat) (f:κ→Option ν) (hm:a.eval m=.map (some b)) (h:TMap P k kenc ok venc w b n f) (y:κ) (hx:a.eval x=kenc y) (hy:ok y)
  (hK:wpList P ops Q rest (a.put o.dst (venc ((f y).getD zv))) w):wpList P ops Q (o :: rest) a w:=by refine wpList_plain hgd fun K' hK' => ?_;unfold Oper.wp;simp [execOp,hop,hm,hx,h.lookup KE hv ht hz y hy,Result.andThen];exact hK' _ _ hK
theorem wpList_tstore[DecidableEq κ](KE:KeyEnc P k kenc ok)(hv:∀ x y,venc x=venc y→x=y)(hgd:o.guard=none)(m x u:Operand)(t:TypeId)(hop:o.op=Op.mapUpdate t m x u)(ht:P.underlying t=some (.map k e))
  (b n:Nat) (f:κ→Option ν) (hm:a.eval m=.map (some b)) (h:TMap P k kenc ok venc w b n f) (hn:n<maxLen) (y:κ) (hx:a.eval x=kenc y) (hy:ok y) (v:ν) (hu:a.eval u=venc v)
  (hK:∀ w',TMap P k kenc ok venc w' b (n+1) (updM f y v)→w.grownBy w' (some b)→w'.heap.size=w.heap.size→wpList P ops Q rest (a.put o.dst undef) w'):wpList P ops Q (o :: rest) a w:=by
 refine wpList_plain hgd fun K' hK' => ?_;obtain⟨w',hrun,h1,h2⟩:=h.store KE hv ht hn y hy v;unfold Oper.wp;simp [execOp,hop,hm,hx,hu,hrun,Result.andThen];have hs:w'.heap.size=w.heap.size:=by obtain⟨es,clock,es',clock',_,rfl⟩:=h2;simp [Go.ChangeMaps.setBlock]
 exact hK' _ _ (hK w' h1 h2.grown hs)
theorem wpList_trange(KE:KeyEnc P k kenc ok)(hgd:o.guard=none)(m:Operand)(t:TypeId)(hop:o.op=Op.range t m)(ht:P.underlying t=some (.map k e))
  (b n:Nat) (f:κ→Option ν) (hm:a.eval m=.map (some b)) (h:TMap P k kenc ok venc w b n f)
  (hK:∀ w' cnt,TRanges P k kenc ok venc w' b w.heap.size n f (fun x=>(f x).isSome) cnt→w.grownBy w' none→w'.heap.size=w.heap.size+1→wpList P ops Q rest (a.put o.dst (.pointer (some ⟨w.heap.size,0,none⟩))) w'):wpList P ops Q (o :: rest) a w:=by refine wpList_plain hgd fun K' hK' => ?_;obtain⟨w',cnt,hrun,r1,r2,r3⟩:=h.range KE ht;unfold Oper.wp;simp [execOp,hop,hm,hrun,Result.andThen];exact hK' _ _ (hK w' cnt r1 r2 r3)
theorem wpList_tnext[DecidableEq κ](KE:KeyEnc P k kenc ok)(hgd:o.guard=none)(it:Operand)(hop:o.op=Op.next it false)(b r n:Nat)(f:κ→Option ν)(left:κ→Bool)(cnt:Nat)
  (hit:a.eval it=.pointer (some ⟨r,0,none⟩)) (h:TRanges P k kenc ok venc w b r n f left cnt)
  (hDone:(∀ x,ok x→left x=false)→wpList P ops Q rest (a.put o.dst (.tuple #[.bool false])) w)
  (hMore:∀(x:κ) (v:ν) (w':World) (cnt':Nat),ok x→left x=true→f x=some v→TRanges P k kenc ok venc w' b r n f (fun y=>left y && !decide (y=x)) cnt'→cnt'<cnt→w.grownBy w' (some r)→w'.heap.size=w.heap.size →
   (Instr.entry (.pointer (some ⟨r,0,none⟩))).run P w'=.ok (.tuple #[kenc x,venc v]) w'→wpList P ops Q rest (a.put o.dst (.tuple #[.bool true,kenc x,venc v])) w'):wpList P ops Q (o :: rest) a w:=by
 refine wpList_plain hgd fun K' hK' => ?_;unfold Oper.wp;rcases h.next KE o.type with⟨_,hl,hrun⟩|⟨x,v,w',cnt',hx,hlx,hfx,hrun,hr,hlt,hg,hs,hen⟩
 · simp [execOp,hop,hit,hrun,Result.andThen];exact hK' _ _ (hDone hl)
 simp [execOp,hop,hit,hrun,Result.andThen];exact hK' _ _ (hMore x v w' cnt' hx hlx hfx hr hlt hg hs hen)
end
end Go.Proofs.YtjccmcgglfncdaaGreatDoor
