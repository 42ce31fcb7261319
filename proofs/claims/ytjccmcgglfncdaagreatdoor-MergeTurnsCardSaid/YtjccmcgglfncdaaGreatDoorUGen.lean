/- What is proved: MergeTurns, for every input; of the listed tables the walk needs the powers of ten. -/
import Derived.StillTail
import Derived.Below
import Derived.Test.YtjccmcgglfncdaaGreatDoorUBase
import Derived.Lib.SlBytesConst
import Derived.Stop.BytesEq
set_option linter.unusedVariables false
set_option linter.unusedSimpArgs false
namespace Go.Proofs.YtjccmcgglfncdaaGreatDoor
open Go Go.RowKit
variable{a:Act}{K K' Q:Act→World→Prop}{ops:Array Oper}{l:List Oper}{i j k n:Nat}{o oi:Oper}{u v:Value}{w w':World}
section
variable {P : Program} {ops : Array Oper} {md : Region.Mode} {C : World → Prop} {loud : Nat → Bool}
def calmOp:Op→Bool
 | .move _|.assign _|.pick .. | .load .. | .binOp .. | .unOp .. | .convert .. | .extract .. | .field .. | .fieldAddr .. | .indexAddr .. | .index .. | .slice .. | .lookup .. | .makeInterface .. | .nilCheck .. | .build .. => true
 | .call c=>match c.callee with
  | .builtin .len|.builtin .cap|.builtin .max|.builtin .min=>true
  | _=>false
 | _=>false
theorem run_v{s:Sem Value}{f:FuncId}{args:Array Value}:Sem.run P (do pure (Next.value (← s)):Sem Next) w≠.ok (.enter f args) w':=by simp only [Sem.run_bind];cases Sem.run P s w <;> simp
theorem calm_noEnter{ρ:Operand→Value}{f:FuncId}{args:Array Value}(hc:calmOp o.op=true) :
  (execOp ρ o).run P w≠.ok (.enter f args) w':=by
 unfold execOp;cases ho:o.op <;> rw [ho] at hc <;> simp only [calmOp] at hc <;> try(exact absurd hc (by decide))
 case move x=>simp
 case assign x=>simp
 case pick c x y =>simp only [Sem.run_bind];cases Sem.run P (asBool (ρ c)) w <;> simp
 case call c =>
  cases hcc:c.callee with
  | value g=>rw [hcc] at hc;simp at hc
  | invoke r m=>rw [hcc] at hc;simp at hc
  | builtin b =>rw [hcc] at hc;simp only [resolve,hcc,invoke,Sem.run_bind,Sem.run_pure,Result.andThen_ok];cases b <;> simp at hc <;> simp only [builtin] <;> exact run_v
 case nilCheck x =>
  dsimp only;generalize ρ x=y;have hp:Sem.run P (runtimePanic (α:=Next) RuntimeError.nilDeref) w≠Result.ok (Next.enter f args) w':=by simp [runtimePanic,goPanic]
  split
  · exact hp
  · exact hp
  · exact hp
  ·
   split
   · exact hp
   ·
    simp only [Sem.run_bind];intro h;cases h1:Sem.run P program w with
    | halt c w1=>rw [h1] at h;simp at h
    | ok p w1 =>
     rw [h1] at h;simp only [Result.andThen_ok] at h;rename_i t u _;cases h2:Sem.run P (nilAhead (p.types.size+Made.depth) t u _) w1 with
     | halt c w2=>rw [h2] at h;simp at h
     | ok q w2 =>rw [h2] at h;simp only [Result.andThen_ok] at h;split at h <;> simp [unsupported] at h
   simp
  simp
 all_goals exact run_v
def NoWay:Exit→Act→World→Prop:=fun _ _ _=>False
theorem letsOut_noWay:¬ LetsOut NoWay:=fun⟨_,_,h⟩=>h
theorem wp_noWay{Q:Exit→Act→World→Prop}(h:∀ a w,K a w→K' a w)
  (hh:o.wp P a w K NoWay):o.wp P a w K' Q:=by
 unfold Oper.wp at *;generalize (execOp a.eval o).run P w=r at *;cases r with
 | ok n w' =>
  cases n <;> simp only [Oper.upon] at hh ⊢ <;>
   first
    | exact h _ _ hh
    | exact Calls.mono hh (fun e w'' he=>by
      cases e with
      | returned v=>exact h _ _ he
      | panicked c=>exact he.elim
      | outgrown=>exact(letsOut_noWay he).elim)
    | exact Rows.mono hh (fun _ _ he=>h _ _ he)
 | halt x w'=>cases x <;> simp only [Oper.upon] at hh ⊢ <;> exact hh.elim
theorem wp_some{X:Prop}(hh:o.wp P a w K NoWay)
  (hx:∀ ds v w',K (({a with defers:=ds}:Act).put o.dst v) w'→X):X:=by
 unfold Oper.wp at hh;generalize (execOp a.eval o).run P w=r at *;cases r with
 | ok n w' =>
  cases n <;> simp only [Oper.upon] at hh
  case value u=>exact hx a.defers _ _ hh
  case skip=>exact hx a.defers _ _ hh
  case defer d=>exact hx _ _ _ hh
  case enter f args =>
   obtain⟨e,w'',fr,hR,_⟩:=hh [];cases e with
   | returned v=>exact hx a.defers _ _ hR
   | panicked c=>exact hR.elim
   | outgrown=>exact(letsOut_noWay hR).elim
  case row row args =>obtain⟨v,w'',hR,_⟩:=hh (Frame.enter P 0 #[] .normal) [];exact hx a.defers _ _ hR
 | halt x w'=>cases x <;> simp only [Oper.upon] at hh <;> exact hh.elim
theorem put_defers'(a:Act)(x:Option Tmp)(v:Value)(ds:List Deferred):({a.put x v with defers:=ds}:Act)=({a with defers:=ds}:Act).put x v:=by cases x <;> rfl
theorem wp_behind{d:Option Tmp}(he:execOp (a.put d u).eval o=execOp a.eval o)(hh:o.wp P a w K NoWay)
  (h:∀ ds v w',K (({a with defers:=ds}:Act).put o.dst v) w'→K' ((({a with defers:=ds}:Act).put d u).put o.dst v) w'):o.wp P (a.put d u) w K' NoWay:=by
 unfold Oper.wp at *;rw [he];generalize (execOp a.eval o).run P w=r at *;have hd:∀ ds,({a.put d u with defers:=ds}:Act)=({a with defers:=ds}:Act).put d u:=put_defers' a d u;have ha:({a with defers:=a.defers}:Act)=a:=rfl;cases r with
 | ok n w' =>
  cases n <;> simp only [Oper.upon] at hh ⊢
  case value v=>exact h a.defers v w' hh
  case skip=>exact h a.defers undef w' hh
  case defer x =>
   have e1:(a.put d u).defers=a.defers:=by cases d <;> rfl
   rw [e1,hd];exact h _ _ _ hh
  case enter f args =>
   refine Calls.mono hh fun e w'' he => ?_;cases e with
   | returned v=>exact h a.defers v w'' he
   | panicked c=>exact he.elim
   | outgrown=>exact he
  case row row args=>exact Rows.mono hh fun v w'' he=>h a.defers v w'' he
 | halt x w'=>cases x <;> simp only [Oper.upon] at hh <;> exact hh.elim
def xOp(P:Program)(ops:Array Oper)(C:World→Prop)(loud:Nat→Bool)(i:Nat)(K:Act→World→Prop)(a:Act)(w:World):Prop:=
 match ops[i]? with
 | none=>K a w
 | some o =>
  if Region.wanted o (yielded ops a.tmps) then
   if loud i then o.wp P a w (fun a' w'=>C w'∧K a' w') NoWay else o.quiet P a C (fun a'=>K a' w)
  else K (a.put o.dst undef) w
theorem xOp_mono(hC:C w)(h:∀ a w,C w→K a w→K' a w)(hh:xOp P ops C loud i K a w):xOp P ops C loud i K' a w:=by
 unfold xOp at *;split
 · simp only [*] at hh;exact h _ _ hC hh
 rename_i o ho;simp only [ho] at hh;split
 ·
  rename_i hw;simp only [hw,if_true] at hh;split
  · rename_i hl;simp only [hl,if_true] at hh;exact Oper.wp_mono (fun a w hk=>⟨hk.1,h _ _ hk.1 hk.2⟩) hh
  rename_i hl;simp only [hl] at hh;exact Oper.quiet_mono (fun a hk=>h _ _ hC hk) hh
 rename_i hw;simp only [hw] at hh;exact h _ _ hC hh
theorem xOp_some{X:Prop}(hC:C w)(hh:xOp P ops C loud i K a w)(hx:∀ a w,C w→K a w→X):X:=by
 unfold xOp at hh;split at hh
 · exact hx _ _ hC hh
 split at hh
 ·
  split at hh
  · exact wp_some hh fun ds v w' hk=>hx _ _ hk.1 hk.2
  obtain⟨v,_,hk⟩:=hh;exact hx _ _ hC hk
 exact hx _ _ hC hh
theorem quiet_one(hc:calmOp o.op=true)(h1:o.quietAt P a C w u)(h2:o.quietAt P a C w v):u=v:=by
 unfold Oper.quietAt at *;have hne:=fun f args w'=>calm_noEnter (P:=P) (ρ:=a.eval) (w:=w) (w':=w') (f:=f) (args:=args) hc;generalize (execOp a.eval o).run P w=r at *;cases r with
 | ok n w' =>
  cases n <;> simp only [Oper.quietUpon] at h1 h2
  case value x=>rw [← h1.2,← h2.2]
  case skip=>rw [h1.2,h2.2]
  case enter f args=>exact absurd rfl (hne f args w')
 | halt x w'=>simp only [Oper.quietUpon] at h1
theorem yields_one(hC:C w)(hc:calmOp o.op=true)(h1:YieldsIn P ops C o u a)(h2:YieldsIn P ops C o v a):u=v:=by
 rcases h1 with⟨hw,h1⟩|⟨hw,rfl⟩ <;> rcases h2 with⟨hw',h2⟩|⟨hw',rfl⟩
 · exact quiet_one hc (h1 w hC) (h2 w hC)
 · rw [hw] at hw';cases hw'
 · rw [hw] at hw';cases hw'
 rfl
theorem xOp_of_yields(hi:ops[i]? = some o)(hl:loud i=false∨Region.wanted o (yielded ops a.tmps)=false)
  (hy:YieldsIn P ops C o v a) (h:K (a.put o.dst v) w):xOp P ops C loud i K a w:=by
 unfold xOp;simp only [hi];rcases hy with⟨hw,hv⟩|⟨hw,rfl⟩
 ·
  simp only [hw,if_true];rcases hl with hl|hl
  · simp only [hl];exact⟨v,hv,h⟩
  rw [hw] at hl;cases hl
 simp only [hw];exact h
theorem yields_of_xOp(hi:ops[i]? = some o)(hl:loud i=false∨Region.wanted o (yielded ops a.tmps)=false)
  (h:xOp P ops C loud i K a w):∃ v,YieldsIn P ops C o v a∧K (a.put o.dst v) w:=by
 unfold xOp at h;simp only [hi] at h
 by_cases hw:Region.wanted o (yielded ops a.tmps)=true
 ·
  simp only [hw,if_true] at h;rcases hl with hl|hl
  · simp only [hl] at h;obtain⟨v,h1,h2⟩:=h;exact⟨v,.inl ⟨hw,h1⟩,h2⟩
  rw [hw] at hl;cases hl
 simp only [hw] at h;exact⟨undef,.inr ⟨by simpa using hw,rfl⟩,h⟩
theorem xOp_put{oj:Oper}(hj:ops[j]? = some oj)(hap:oi.apart ops oj=true)
  (hsi:∀ cs b,oi.op≠.select cs b) (hsj:∀ cs b,oj.op≠.select cs b)   
  (hy:YieldsIn P ops C oi v a) (h:xOp P ops C loud j K (a.put oi.dst v) w) :
  xOp P ops C loud j (fun a' w'=>(YieldsIn P ops C oi v a'∧Region.wanted oi (yielded ops a'.tmps)=Region.wanted oi (yielded ops a.tmps))∧K (a'.put oi.dst v) w') a w:=by
 obtain⟨h1,h2,h3⟩:=Oper.apart_spec hap;have keep:∀(ds:List Deferred) (u:Value),YieldsIn P ops C oi v (({a with defers:=ds}:Act).put oj.dst u)∧Region.wanted oi (yielded ops (({a with defers:=ds}:Act).put oj.dst u).tmps)=Region.wanted oi (yielded ops a.tmps):=fun ds u =>⟨hy.of_same ((execOp_put oi hsi ({a with defers:=ds}:Act) oj.dst u h3).trans rfl) ((wanted_put oi ({a with defers:=ds}:Act) oj.dst u h3).trans rfl),(wanted_put oi ({a with defers:=ds}:Act) oj.dst u h3).trans rfl⟩;unfold xOp at *;simp only [hj] at *;rw [wanted_put oj a oi.dst v h1] at h;split;rotate_left
 · rename_i hw;simp only [hw] at h;exact⟨keep a.defers _,by rw [← Act.put_comm a v undef h2];exact h⟩
 rename_i hw;simp only [hw,if_true] at h;split
 ·
  rename_i hl;simp only [hl,if_true] at h;unfold Oper.wp at *;rw [execOp_put oj hsj a oi.dst v h1] at h;generalize (execOp a.eval oj).run P w=r at *;cases r with
  | ok n w' =>
   cases n <;> simp only [Oper.upon] at h ⊢
   case value u=>exact⟨h.1,keep a.defers u,by rw [← Act.put_comm a v u h2];exact h.2⟩
   case skip=>exact⟨h.1,keep a.defers _,by rw [← Act.put_comm a v undef h2];exact h.2⟩
   case defer d=>exact⟨h.1,keep _ _,by rw [← Act.put_comm _ v undef h2,← Act.put_defers];exact h.2⟩
   case enter f args =>
    refine Calls.mono h fun e w'' he => ?_;cases e with
    | returned u=>exact⟨he.1,keep a.defers u,by rw [← Act.put_comm a v u h2];exact he.2⟩
    | panicked c=>exact he.elim
    | outgrown=>exact he
   case row row args=>exact Rows.mono h fun u w'' he=>⟨he.1,keep a.defers u,by rw [← Act.put_comm a v u h2];exact he.2⟩
  | halt x w'=>cases x <;> simp only [Oper.upon] at h ⊢ <;> exact h.elim
 rename_i hl;simp only [hl] at h;obtain⟨u,hu,hn⟩:=h;refine⟨u,fun w hw' => ?_,keep a.defers u,by rw [← Act.put_comm a v u h2];exact hn⟩;have:=hu w hw';unfold Oper.quietAt at *
 rwa [execOp_put oj hsj a oi.dst v h1] at this
theorem xOp_comm{oj:Oper}(hi:ops[i]? = some oi)(hj:ops[j]? = some oj)(hap:oi.apart ops oj=true)
  (hsi:∀ cs b,oi.op≠.select cs b) (hsj:∀ cs b,oj.op≠.select cs b) (hcj:loud j=false→calmOp oj.op=true) (hno:loud i=true→loud j=true→False)
     (hC:C w) (h:xOp P ops C loud i (fun a' w'=>xOp P ops C loud j K a' w') a w) :
  xOp P ops C loud j (fun a' w'=>xOp P ops C loud i K a' w') a w:=by
 by_cases hl:loud i=false∨Region.wanted oi (yielded ops a.tmps)=false
 · obtain⟨v,hy,hk⟩:=yields_of_xOp hi hl h;refine xOp_mono hC (fun a' w' _ hk' => ?_) (xOp_put hj hap hsi hsj hy hk);obtain⟨⟨hy',hw'⟩,hk''⟩:=hk';exact xOp_of_yields hi (hl.imp id fun h=>hw'.trans h) hy' hk''
 have hl':loud i=true∧Region.wanted oi (yielded ops a.tmps)=true:=by simpa using hl
 obtain⟨hli,hwi⟩:=hl';have hlj:loud j=false:=by
  cases hlj:loud j with
  | false=>rfl
  | true=>exact(hno hli hlj).elim
 obtain⟨h1,h2,h3⟩:=Oper.apart_spec hap;unfold xOp at h;simp only [hi,hwi,hli,if_true] at h;have same:∀(ds:List Deferred) (v u:Value),YieldsIn P ops C oj u (({a with defers:=ds}:Act).put oi.dst v)↔YieldsIn P ops C oj u a:=fun ds v u=>by have e1:=(execOp_put oj hsj ({a with defers:=ds}:Act) oi.dst v h1).trans (show execOp ({a with defers:=ds}:Act).eval oj=execOp a.eval oj from rfl);have e2:=(wanted_put oj ({a with defers:=ds}:Act) oi.dst v h1).trans (show Region.wanted oj (yielded ops ({a with defers:=ds}:Act).tmps)=Region.wanted oj (yielded ops a.tmps) from rfl);exact⟨fun hy=>hy.of_same e1.symm e2.symm,fun hy=>hy.of_same e1 e2⟩
 have hy:∃ u,YieldsIn P ops C oj u a:=wp_some h fun ds v w' hk=>by obtain⟨u,hu,_⟩:=yields_of_xOp hj (.inl hlj) hk.2;exact⟨u,(same ds v u).1 hu⟩
 obtain⟨u,hu⟩:=hy;refine xOp_of_yields hj (.inl hlj) hu ?_;unfold xOp;simp only [hi,hli,if_true];rw [wanted_put oi a oj.dst u h3];simp only [hwi,if_true];refine wp_behind (execOp_put oi hsi a oj.dst u h3) h fun ds v w' hk=>⟨hk.1,?_⟩;obtain⟨u',hu',hk'⟩:=yields_of_xOp hj (.inl hlj) hk.2;have he:u'=u:=yields_one hk.1 (hcj hlj) ((same ds v u').1 hu') hu;subst he;rw [Act.put_comm _ u' v (fun d hd hd'=>h2 d hd' hd)];exact hk'
def maskOf(m:List Nat)(es:List Edge):Nat:=es.foldr (fun e s=>if Region.binds .any e then 2 ^ e.on ||| m.getD e.on 0 ||| s else s) 0
def masksOf:List Oper→List Nat→List Nat
 | [],acc=>acc
 | o :: l,acc=>masksOf l (acc++[maskOf acc o.after.toList])
def ClosedL(ops:Array Oper)(listed:Array Bool):Prop:=∀ j oj,ops[j]? = some oj→listed.getD j false=true→∀ e∈oj.after,Region.binds .any e=true→listed.getD e.on false=true
def MasksOk(ops:Array Oper)(acc:List Nat):Prop:=∀(j M:Nat),acc[j]? = some M→∀ listed,ClosedL ops listed →
 (∀ oj,ops[j]? = some oj→∀ e∈oj.after,Region.binds .any e=true→listed.getD e.on false=true)→∀ i,M.testBit i=true→listed.getD i false=true
theorem maskOf_ok{acc:List Nat}{listed:Array Bool}(hacc:MasksOk ops acc)(hlen:acc.length≤ops.size)(hc:ClosedL ops listed):∀(es:List Edge),
  (∀ e∈es,Region.binds .any e=true→listed.getD e.on false=true)→∀ i,(maskOf acc es).testBit i=true→listed.getD i false=true
 | [],_,i,h=>by simp [maskOf] at h
 | e :: es,he,i,h=>by
  have ih:=maskOf_ok hacc hlen hc es (fun e' h'=>he e' (List.mem_cons_of_mem _ h')) i
  by_cases hb:Region.binds .any e=true
  ·
   have hm:maskOf acc (e :: es)=2 ^ e.on ||| acc.getD e.on 0 ||| maskOf acc es:=by simp [maskOf,hb]
   rw [hm,Nat.testBit_or,Nat.testBit_or,Bool.or_eq_true,Bool.or_eq_true] at h;have hon:=he e (List.mem_cons_self) hb;rcases h with(h|h)|h
   · rw [Nat.testBit_two_pow] at h;have:e.on=i:=(by simpa using h);rw [← this];exact hon
   ·
    cases hg:acc[e.on]? with
    | none=>simp [List.getD,hg] at h
    | some M =>have hM:acc.getD e.on 0=M:=(by simp [List.getD,hg]);rw [hM] at h;exact hacc e.on M hg listed hc (fun oj hoj e' he' hb'=>hc e.on oj hoj hon e' he' hb') i h
   exact ih h
  have hm:maskOf acc (e :: es)=maskOf acc es:=by simp [maskOf,hb]
  rw [hm] at h;exact ih h
theorem masksOf_ok:∀(l:List Oper) (acc:List Nat),(∀ j,l[j]? = ops[acc.length+j]?)→MasksOk ops acc→MasksOk ops (masksOf l acc)
 | [],acc,_,h=>h
 | o :: l,acc,hl,h=>by
  have h0:ops[acc.length]? = some o:=by simpa using (hl 0).symm
  refine masksOf_ok l _ (fun j => ?_) ?_
  · have:=hl (j+1);rw [List.length_append,List.length_singleton,Nat.add_assoc,Nat.add_comm 1 j];simpa using this
  intro j M hj listed hc hp i hi;rw [List.getElem?_append] at hj;split at hj
  · exact h j M hj listed hc hp i hi
  rename_i hlt;have hje:j=acc.length:=by
   rcases Nat.lt_or_ge (j - acc.length) 1 with h1|h1
   · omega
   rw [List.getElem?_eq_none (by simpa using h1)] at hj;cases hj
  subst hje;simp only [Nat.sub_self,List.getElem?_cons_zero,Option.some.injEq] at hj;subst hj;exact maskOf_ok h (Nat.le_of_lt (Array.getElem?_eq_some_iff.1 h0).1) hc o.after.toList (fun e he hb=>hp o h0 e (by simpa using he) hb) i hi
def loudPairsB(ops:Array Oper)(loud:Nat→Bool):Bool:=
 let m:=masksOf ops.toList []
 let ls:=(List.range ops.size).filter loud
 ls.all fun j=>ls.all fun i => !decide (i<j) || (m.getD j 0).testBit i
theorem loudPairs_ok(h:loudPairsB ops loud=true){listed:Array Bool}(hc:ClosedL ops listed)
  (hi:i∈Region.ready .any ops listed) (hj:j∈Region.ready .any ops listed) (hli:loud i=true) (hlj:loud j=true):i=j:=by
 have key:∀ i j:Nat,i∈Region.ready .any ops listed→j∈Region.ready .any ops listed→loud i=true→loud j=true→i<j→False:=by
  intro i j hi hj hli hlj hlt;obtain⟨hun,oi,hoi,_⟩:=mem_ready.1 hi;obtain⟨_,oj,hoj,hall⟩:=mem_ready.1 hj;have hsi:=(Array.getElem?_eq_some_iff.1 hoi).1;have hsj:=(Array.getElem?_eq_some_iff.1 hoj).1;simp only [loudPairsB,List.all_eq_true,List.mem_filter,List.mem_range,Bool.or_eq_true,Bool.not_eq_true',decide_eq_false_iff_not] at h;have h1:=(h j ⟨hsj,hlj⟩ i ⟨hsi,hli⟩).resolve_left (by omega);have hok:=masksOf_ok (ops:=ops) ops.toList [] (by simp) (by intro j M hj;simp at hj);cases hg:(masksOf ops.toList [])[j]? with
  | none=>simp [List.getD,hg] at h1
  | some M =>have hM:(masksOf ops.toList []).getD j 0=M:=(by simp [List.getD,hg]);rw [hM] at h1;have:=hok j M hg listed hc (fun oj' hoj' e he hb=>by have:oj'=oj:=Option.some.inj (hoj'.symm.trans hoj);subst this;exact hall e he hb) i h1;rw [getD_both hun] at this;cases this
 rcases Nat.lt_trichotomy i j with h1|h1|h1
 · exact(key i j hi hj hli hlj h1).elim
 · exact h1
 exact(key j i hj hi hlj hli h1).elim
def wpAnyX(P:Program)(ops:Array Oper)(C:World→Prop)(loud:Nat→Bool)(n:Nat)(L:Array Bool→Act→World→Prop):Nat→Array Bool→Act→World→Prop
 | 0,listed,a,w=>L listed a w
 | f+1,listed,a,w =>
  Region.ready .any ops listed≠[]∧∀ i∈Region.ready .any ops listed,i<n∧xOp P ops C loud i (wpAnyX P ops C loud n L f (listed.setIfInBounds i true)) a w
theorem wpOp_of_xOp{Q':Exit→Act→World→Prop}(hC:C w)(hcalm:∀ o,ops[i]? = some o→loud i=false→calmOp o.op=true)
  (h:∀ a w,C w→K a w→K' a w) (hh:xOp P ops C loud i K a w):wpOp P ops Q' i K' a w:=by
 unfold xOp at hh;unfold wpOp;split
 · simp only [*] at hh;exact h _ _ hC hh
 rename_i o ho;simp only [ho] at hh;split;rotate_left
 · rename_i hw;simp only [hw] at hh;exact h _ _ hC hh
 rename_i hw;simp only [hw,if_true] at hh;refine .inl ?_;split at hh
 · exact wp_noWay (fun a' w' hk=>h _ _ hk.1 hk.2) hh
 rename_i hl;have hco:=hcalm o ho (by simpa using hl);obtain⟨v,h1,h2⟩:=hh;have h3:=h1 w hC;have hne:=fun f args w'=>calm_noEnter (P:=P) (ρ:=a.eval) (w:=w) (w':=w') (f:=f) (args:=args) hco;unfold Oper.quietAt at h3;unfold Oper.wp;generalize (execOp a.eval o).run P w=r at *;cases r with
 | ok n w' =>
  cases n <;> simp only [Oper.quietUpon] at h3 <;> simp only [Oper.upon]
  case value u =>obtain⟨e1,e2⟩:=h3;rw [e1,e2];exact h _ _ hC h2
  case skip =>obtain⟨e1,e2⟩:=h3;rw [e1,← e2];exact h _ _ hC h2
  case enter f args=>exact absurd rfl (hne f args w')
 | halt x w'=>simp only [Oper.quietUpon] at h3
theorem wpAny_of_headX{g:Nat}{L:Array Bool→Act→World→Prop}{Q':Exit→Act→World→Prop}(hcalm:∀ i o,ops[i]? = some o→loud i=false→calmOp o.op=true)
  (hL:∀ listed a w,L listed a w→wpAny P .any ops Q' g listed a w) :
  ∀(f:Nat) (listed:Array Bool) (a:Act) (w:World),C w→wpAnyX P ops C loud n L f listed a w→wpAny P .any ops Q' (f+g) listed a w
 | 0,listed,a,w,_,h=>by rw [Nat.zero_add];exact hL _ _ _ h
 | f+1,listed,a,w,hC,h=>by rw [show f+1+g=(f+g)+1 by omega];exact⟨fun h0=>absurd h0 h.1,fun i hi=>wpOp_of_xOp hC (hcalm i) (fun a' w' hC' h'=>wpAny_of_headX hcalm hL f _ a' w' hC' h') (h.2 i hi).2⟩
theorem wpAnyX_first{L:Array Bool→Act→World→Prop}(hi:ops[i]? = some oi)(hsel:∀(j:Nat) (o:Oper) cs b,ops[j]? = some o→o.op≠.select cs b)
  (hcalm:∀ i o,ops[i]? = some o→loud i=false→calmOp o.op=true) (hpairs:loudPairsB ops loud=true)
  (htail:n=ops.size∨(Region.sinkB .any ops n=true∧Region.chainB .any ops n=true∧n<ops.size)) (hin:i<n)
  (hdone:∀ listed a w,L listed a w→∀ j∈Region.ready .any ops listed,n≤j) :
  ∀(f:Nat) (listed:Array Bool) (a:Act) (w:World),C w→HeadInv .any ops n listed →
   (∀ j oj,ops[j]? = some oj→j≠i→listed.getD j true=false→(∀ e∈oj.after,Region.binds .any e=true→e.on≠i)→oi.apart ops oj=true) →
   i∈Region.ready .any ops listed →
   xOp P ops C loud i (wpAnyX P ops C loud n L f (listed.setIfInBounds i true)) a w→wpAnyX P ops C loud n L (f+1) listed a w:=by
 intro f;induction f with
 | zero =>
  intro listed a w hC inv _ hr H;have hun:=(mem_ready.1 hr).1;refine⟨fun h=>(by rw [h] at hr;cases hr),fun j hj => ?_⟩;have hjn:j<n:=by
   obtain⟨_,oj,hoj,_⟩:=mem_ready.1 hj;have hjs:=(Array.getElem?_eq_some_iff.1 hoj).1;rcases Nat.lt_or_ge j n with h|h
   · exact h
   ·
    rcases htail with ht|⟨hs,hc,hn⟩
    · omega
    · exact absurd hj (tail_waits hs hc hn inv _ i rfl hin hun j h)
  refine⟨hjn,?_⟩
  by_cases hji:j=i
  · subst hji;exact H
  · have:n≤j:=xOp_some hC H fun a' w' _ hk=>hdone _ a' w' hk j (ready_mono hj hji);omega
 | succ f ih =>
  intro listed a w hC inv hfree hr H;have hun:=(mem_ready.1 hr).1;refine⟨fun h=>(by rw [h] at hr;cases hr),fun j hj => ?_⟩;have hjn:j<n:=by
   obtain⟨_,oj,hoj,_⟩:=mem_ready.1 hj;have hjs:=(Array.getElem?_eq_some_iff.1 hoj).1;rcases Nat.lt_or_ge j n with h|h
   · exact h
   ·
    rcases htail with ht|⟨hs,hc,hn⟩
    · omega
    · exact absurd hj (tail_waits hs hc hn inv _ i rfl hin hun j h)
  refine⟨hjn,?_⟩
  by_cases hji:j=i
  · subst hji;exact H
  ·
   obtain⟨hjun,oj,hoj,hall⟩:=mem_ready.1 hj;have hnot:∀ e∈oj.after,Region.binds .any e=true→e.on≠i:=fun e he hb heq=>by have h1:=hall e he hb;rw [heq,getD_both hun] at h1;cases h1
   have hno:loud i=true→loud j=true→False:=fun h1 h2=>hji (loudPairs_ok hpairs (fun j oj hj hl e he hb=>inv.closed j oj hj hl e he hb) hj hr h2 h1);have H':xOp P ops C loud i (fun a' w'=>xOp P ops C loud j (wpAnyX P ops C loud n L f ((listed.setIfInBounds i true).setIfInBounds j true)) a' w') a w:=
    xOp_mono hC (fun a' w' _ hk=>(hk.2 j (ready_mono hj hji)).2) H
   have h2:=xOp_comm hi hoj (hfree j oj hoj hji hjun hnot) (fun cs b=>hsel i oi cs b hi) (fun cs b=>hsel j oj cs b hoj) (hcalm j oj hoj) hno hC H';have hfree':∀ k ok,ops[k]? = some ok→k≠i→(listed.setIfInBounds j true).getD k true=false →
     (∀ e∈ok.after,Region.binds .any e=true→e.on≠i)→oi.apart ops ok=true:=fun k ok hk hki hun hno=>by
    refine hfree k ok hk hki ?_ hno
    by_cases hjk:j=k
    ·
     subst hjk;exact hjun
    ·
     rw [getD_set_ne true hjk] at hun;exact hun
   refine xOp_mono hC (fun a' w' hC' h3=>ih (listed.setIfInBounds j true) a' w' hC' (inv.set hj hjn) hfree' (ready_mono hr (Ne.symm hji)) ?_) h2;rw [Array.setIfInBounds_comm _ _ hji];exact h3
def wpLex(P:Program)(ops:Array Oper)(C:World→Prop)(loud:Nat→Bool)(Q:Act→World→Prop):Nat→List Oper→Act→World→Prop
 | _,[],a,w=>Q a w
 | k,o :: l,a,w =>
  if Region.wanted o (yielded ops a.tmps) then
   if loud k then o.wp P a w (fun a' w'=>C w'∧wpLex P ops C loud Q (k+1) l a' w') NoWay else o.quiet P a C (fun a'=>wpLex P ops C loud Q (k+1) l a' w)
  else wpLex P ops C loud Q (k+1) l (a.put o.dst undef) w
theorem wpAnyX_lex{g:Nat}{Lq:Act→World→Prop}(hsel:Region.noSelect ops=true)(hcalm:∀ i o,ops[i]? = some o→loud i=false→calmOp o.op=true)(hpairs:loudPairsB ops loud=true)
  (htail:n=ops.size∨(Region.sinkB .any ops n=true∧Region.chainB .any ops n=true∧n<ops.size)) :
  ∀(l:List Oper) (k:Nat) (listed:Array Bool) (a:Act) (w:World),C w→(∀ j,j<l.length→l[j]? = ops[k+j]?)→k+l.length=n→HeadInv .any ops n listed →
  Region.lexHead .any ops g l.length k listed=true→wpLex P ops C loud Lq k l a w →
  wpAnyX P ops C loud n (fun listed' a' w'=>Region.seqB .any ops g n listed'=true∧Lq a' w') l.length listed a w
 | [],k,listed,a,w,_,_,hk,_,hB,h=>by
  have:k=n:=by simpa using hk
  subst this;exact⟨by simpa [Region.lexHead] using hB,h⟩
 | o :: l,k,listed,a,w,hC,hl,hk,inv,hB,h=>by
  have h0:ops[k]? = some o:=by simpa using (hl 0 (by simp)).symm
  simp only [List.length_cons,Region.lexHead,Bool.and_eq_true] at hB;obtain⟨⟨hr,hf⟩,hB'⟩:=hB;have hkn:k<n:=by simp only [List.length_cons] at hk;omega
  have hr':k∈Region.ready .any ops listed:=by simpa using hr
  refine wpAnyX_first h0 (Region.noSelect_spec hsel) hcalm hpairs htail hkn (fun listed' a' w' hL=>seqB_ready hL.1) l.length listed a w hC inv (Region.free_spec h0 hf) hr' ?_;have hx:xOp P ops C loud k (wpLex P ops C loud Lq (k+1) l) a w:=by unfold xOp;simp only [h0];exact h
  exact xOp_mono hC (fun a' w' hC' hk'=>wpAnyX_lex hsel hcalm hpairs htail l (k+1) _ a' w' hC'
   (fun j hj=>by have:=hl (j+1) (by simp;omega);simpa [Nat.add_assoc,Nat.add_comm 1 j] using this) (by simp only [List.length_cons] at hk;omega) (inv.set hr' hkn) hB' hk') hx
def loudAt(ops:List Oper)(xs:List Nat)(k:Nat):Bool:=
 match ops[k]? with
 | some o => !calmOp o.op || xs.contains k
 | none=>false
def lexXB(l:List Oper)(n:Nat)(xs:List Nat):Bool:=
 Region.noSelect l.toArray && loudPairsB l.toArray (loudAt l xs) && (n == l.length || (decide (n<l.length) && Region.sinkB .any l.toArray n && Region.chainB .any l.toArray n)) &&
  Region.lexHead .any l.toArray (l.length - n) n 0 (Array.replicate l.length false)
theorem loudAt_calm{xs:List Nat}(hi:l.toArray[i]? = some o)(h:loudAt l xs i=false):calmOp o.op=true:=by
 have:l[i]? = some o:=by simpa using hi
 simp only [loudAt,this,Bool.or_eq_false_iff,Bool.not_eq_false'] at h;exact h.1
theorem wlex{id:Nat}{Q:Exit→Act→World→Prop}(n:Nat)(xs:List Nat)(hm:P.follows .mixedOrders=true)(hB:lexXB l n xs=true)
  (hC:C w.drew) (h:wpLex P l.toArray C (loudAt l xs) (fun a' w'=>wpList P l.toArray Q (l.drop n) a' w') 0 (l.take n) a w.drew):(Code.region id l.toArray true).wp P Q a w:=by
 simp only [lexXB,Bool.and_eq_true,Bool.or_eq_true,beq_iff_eq,decide_eq_true_eq] at hB;obtain⟨⟨⟨hsel,hpairs⟩,ht⟩,hlex⟩:=hB;have hn:n≤l.length:=by rcases ht with h|h <;> omega
 have htl:(l.take n).length=n:=by simp;omega
 have hdl:(l.drop n).length=l.length - n:=by simp
 have htail:n=l.toArray.size∨(Region.sinkB .any l.toArray n=true∧Region.chainB .any l.toArray n=true∧n<l.toArray.size):=by
  rcases ht with h|h
  · exact .inl (by simpa using h)
  exact .inr ⟨h.1.2,h.2,by simpa using h.1.1⟩
 have inv0:HeadInv .any l.toArray n (Array.replicate l.length false):=
  ⟨by simp,fun j oj _ hl=>(by rw [getD_replicate_false] at hl;cases hl),fun t _ ht=>getD_in (by simpa using ht) (getD_replicate_false _ _)⟩
 have H:=wpAnyX_lex (C:=C) (loud:=loudAt l xs) (g:=l.length - n) hsel (fun i o hi hl=>loudAt_calm hi hl) hpairs htail (l.take n) 0 _ a w.drew hC (fun j hj=>by
  have hj':j<n:=by rw [htl] at hj;exact hj
  simp [hj']) (by simpa using htl) inv0 (by rw [htl];exact hlex) h
 refine wp_region_any hm ?_;have:=wpAny_of_headX (Q':=Q) (g:=l.length - n) (fun i o hi hl=>loudAt_calm hi hl) (fun listed a' w' hL=>by
  have:=wpAny_of_seq (md:=.any) (Q':=Q) (l.drop n) n listed a' w' (fun j=>by simp [List.getElem?_drop]) (by rw [hdl];exact hL.1) hL.2
  rwa [hdl] at this) _ _ _ _ hC H
 rw [htl,show n+(l.length - n)=l.length by omega] at this;simpa using this
theorem lxe(h:Q a w):wpLex P ops C loud Q k [] a w:=h
theorem lex_calm:∀(m:Nat) {k:Nat} {l:List Oper} {a:Act} {w:World},((List.range m).all fun i => !loud (k+i))=true →
  wpQuiet P ops C (fun a'=>wpLex P ops C loud Q (k+m) (l.drop m) a' w) (l.take m) a→wpLex P ops C loud Q k l a w
 | 0,k,l,a,w,_,h=>by simpa [wpQuiet] using h
 | m+1,k,[],a,w,_,h=>by
  have:wpLex P ops C loud Q (k+(m+1)) [] a w:=by simpa [wpQuiet] using h
  exact this
 | m+1,k,o :: l,a,w,hq,h=>by
  have hk:loud k=false:=by have:=List.all_eq_true.1 hq 0 (by simp);simpa using this
  have hq':((List.range m).all fun i => !loud (k+1+i))=true:=by
   rw [List.all_eq_true];intro i hi;have:=List.all_eq_true.1 hq (i+1) (by simp at hi ⊢;omega)
   rwa [show k+1+i=k+(i+1) by omega]
  have hn:∀ a',wpQuiet P ops C (fun a'=>wpLex P ops C loud Q (k+(m+1)) (l.drop m) a' w) (l.take m) a'→wpLex P ops C loud Q (k+1) l a' w:=fun a' h' =>lex_calm m hq' (by rw [show k+1+m=k+(m+1) by omega];exact h');simp only [List.take_succ_cons,List.drop_succ_cons,wpQuiet] at h;unfold wpLex;split
  · rename_i hw;simp only [hw,if_true] at h;simp only [hk];exact Oper.quiet_mono hn h
  rename_i hw;simp only [hw] at h;exact hn _ h
theorem lxo(hl:loud k=false)
  (h:wpQuiet P ops C (fun a'=>wpLex P ops C loud Q (k+1) l a' w) [o] a):wpLex P ops C loud Q k (o :: l) a w:=
 lex_calm 1 (by simpa using hl) (by simpa using h)
theorem lxl(hl:loud k=true)
  (h:wpList P ops (fun e a' w'=>e=.normal∧C w'∧wpLex P ops C loud Q (k+1) l a' w') [o] a w):wpLex P ops C loud Q k (o :: l) a w:=by
 have hnil:∀ a' w',wpList P ops (fun e a' w'=>e=.normal∧C w'∧wpLex P ops C loud Q (k+1) l a' w') [] a' w'→C w'∧wpLex P ops C loud Q (k+1) l a' w':=fun a' w' h=>h.2;rw [wpLex];rw [wpList] at h
 by_cases hw:Region.wanted o (yielded ops a.tmps)=true
 rotate_left
 · rw [if_neg hw] at h ⊢;exact(hnil _ _ h).2
 rw [if_pos hw] at h ⊢;rw [if_pos hl];rcases h with h|⟨_,a',w',h⟩
 rotate_left
 · exact absurd h.1 (by simp)
 have h':=Oper.wp_mono (K':=fun a' w'=>C w'∧wpLex P ops C loud Q (k+1) l a' w') hnil h;unfold Oper.wp at *;generalize (execOp a.eval o).run P w=r at *;cases r with
 | ok n w' =>
  cases n <;> simp only [Oper.upon] at h' ⊢ <;>
   first
    | exact h'
    | exact Calls.mono h' (fun e w'' he=>by
      cases e with
      | returned v=>exact he
      | panicked c=>exact absurd he.1 (by simp)
      | outgrown=>obtain⟨_,_,he,_⟩:=he;exact absurd he (by simp))
 | halt x w' =>
  cases x <;> simp only [Oper.upon] at h' ⊢
  exact absurd h'.1 (by simp)
def Over(w:World):Type:={w':World // Below w.heap.size w w'}
instance (w:World):Nonempty (Over w):=⟨⟨w,Below.refl _ _⟩⟩
def IsOver(w:World):World→Prop:=fun w'=>∃ x:Over w,w'=x.1
theorem iov(h:Below w.heap.size w w'):IsOver w w':=⟨⟨w',h⟩,rfl⟩
theorem wlov{P:Program}{id:Nat}{Q:Exit→Act→World→Prop}(n:Nat)(xs:List Nat)(hm:P.follows .mixedOrders=true)(hB:lexXB l n xs=true)
  (h:Below w.heap.size w w.drew→wpLex P l.toArray (IsOver w) (loudAt l xs) (fun a' w'=>wpList P l.toArray Q (l.drop n) a' w') 0 (l.take n) a w.drew):(Code.region id l.toArray true).wp P Q a w:=wlex (C:=IsOver w) n xs hm hB (iov (Below.refl _ _).drew) (h (Below.refl _ _).drew)
structure Hk(G:Prop):Prop where k:G
theorem lxq{G P:Prop}(k:G)(h:Hk G→P:=by intro hk;first|(refine lxs rfl rfl ?_;simp only [Act.put,List.setIfInBounds_toArray,List.set_cons_succ,List.set_cons_zero];exact hk.k)|(refine lxo rfl ?_;go_big_quiet_step (fail);refine wpQuiet_nil ?_;exact hk.k)):P:=h ⟨k⟩
theorem wlo{P:Program}{id:Nat}{Q:Exit→Act→World→Prop}{a:Act}{w:World}{l:List Oper}{G:Prop}(n:Nat)(k:Below w.heap.size w w.drew→G)
  (h:Hk (Below w.heap.size w w.drew→G)→Below w.heap.size w w.drew→wpLex P l.toArray (IsOver w) (loudAt l []) (fun a' w'=>wpList P l.toArray Q (l.drop n) a' w') 0 (l.take n) a w.drew:=by intro hk hc;simp only [List.take_succ_cons,List.take_zero,List.drop_succ_cons,List.drop_zero];exact hk.k hc)(hm:P.follows .mixedOrders=true:=by kernel_rfl)(hB:lexXB l n []=true:=by kernel_rfl):(Code.region id l.toArray true).wp P Q a w:=wlov n [] hm hB (h ⟨k⟩)
theorem isOver_below(h:IsOver w w'):Below w.heap.size w w':=by obtain⟨x,rfl⟩:=h;exact x.2
@[go_sem] theorem isOver_all  {p:World→Prop}:(∀ w',IsOver w w'→p w')↔∀ x:Over w,p x.1:=⟨fun h x=>h _ ⟨x,rfl⟩,fun h w' ⟨x,hx⟩=>hx▸h x⟩
@[simp,go_sem] theorem heap_drew' (w:World):w.drew.heap=w.heap:=rfl
@[simp,go_sem] theorem heap_drewN' (w:World) (n:Nat):(w.drewN n).heap=w.heap:=rfl
@[simp,go_sem] theorem over_cell  (x:Over w) {a:Addr} (h:a.block<w.heap.size):World.cell? x.1 a=w.cell? a:=x.2.cell h
@[simp,go_sem] theorem over_frozen  (x:Over w) {a:Addr} (h:a.block<w.heap.size):World.frozen? x.1 a=w.frozen? a:=x.2.frozen h
attribute [irreducible] wpLex
end
end Go.Proofs.YtjccmcgglfncdaaGreatDoor
namespace Go.Proofs.YtjccmcgglfncdaaGreatDoor
open Go Go.RowKit
variable{cs:List Value}{B n sz:Nat}{e:TypeId}{v:Value}{w w':World}
def Row(w:World)(v:Value)(n sz:Nat)(cs:List Value):Prop:=
 cs.length=n*sz∧∃ a cap,v=.slice a n cap∧n≤cap∧cap≤maxLen∧(a=none→cap=0) ∧
  (n≠0→∃ b off,a=some ⟨b,off,none⟩∧b<w.heap.size∧∀ j u,cs[j]? = some u→w.cell? ⟨b,off+j,none⟩=some u)
theorem row_nil(w:World)(sz:Nat):Row w (.slice none 0 0) 0 sz []:=⟨by simp,none,0,rfl,Nat.le_refl _,Nat.zero_le _,fun _=>rfl,fun h=>absurd rfl h⟩
theorem Row.keep(h:Row w v n sz cs)(hs:w.heap.size≤w'.heap.size)(hb:∀ b,v.ownBlock=some b→b<w.heap.size→w'.heap[b]? = w.heap[b]?):Row w' v n sz cs:=by obtain⟨h1,a,cap,rfl,h2,h3,h4,h5⟩:=h;refine⟨h1,a,cap,rfl,h2,h3,h4,fun hn => ?_⟩;obtain⟨b,off,rfl,hlt,hc⟩:=h5 hn;refine⟨b,off,rfl,Nat.lt_of_lt_of_le hlt hs,fun j u hu => ?_⟩;rw [World.cell?_of_block (w:=w) (hb b rfl hlt)];exact hc j u hu
theorem Row.over(h:Row w v n sz cs)(hb:Be w w'):Row w' v n sz cs:=h.keep hb.size fun b _ hlt=>hb.block b hlt
theorem own_row{base:Nat}(h:w.ownsRow base e sz v n cs):Row w v n sz cs:=by
 obtain⟨h1,h2⟩:=h;rcases h2 with⟨rfl,rfl⟩|⟨g,cap,cur,rfl,hb,hg,hn,hm,hs,ht⟩
 · exact⟨h1,none,0,rfl,Nat.le_refl _,Nat.zero_le _,fun _=>rfl,fun h=>absurd rfl h⟩
 refine⟨h1,_,cap,rfl,hn,hm,(fun h=>by cases h),fun _=>⟨g,0,rfl,(Array.getElem?_eq_some_iff.1 hg).1,fun j u hu => ?_⟩⟩;have:=World.ownsRow.cells (w:=w) (base:=base) (e:=e) (size:=sz) (v:=.slice (some ⟨g,0,none⟩) n cap) (n:=n) (xs:=cs) ⟨h1,.inr ⟨g,cap,cur,rfl,hb,hg,hn,hm,hs,ht⟩⟩ (g:=g) rfl j u hu;rw [Addr.add_lit] at this;exact this
structure SlT (P:Program) (t e:TypeId) (size bytes:Nat):Prop where
 out:∃ i z,P.underlying t=some (.slice e)∧P.info? e=some i∧i.zero=some z∧i.size=size∧i.bytes=bytes∧z.cells.size=size∧0<size
theorem slT_of{P:Program}{t:TypeId}{size bytes:Nat}(h1:P.underlying t=some (.slice e))
  (h2:((P.info? e).bind fun i=>i.zero.map fun z=>(i.size,i.bytes,z.cells.size))=some (size,bytes,size)) (h3:0<size):SlT P t e size bytes:=by
 cases hi:P.info? e with
 | none=>simp [hi] at h2
 | some i =>
  cases hz:i.zero with
  | none=>simp [hi,hz] at h2
  | some z =>simp [hi,hz] at h2;exact⟨i,z,h1,hi,hz,h2.1,h2.2.1,h2.2.2,h3⟩
structure SlZ (P:Program) (t e:TypeId) (z:Value) (bytes:Nat):Prop where
 out:∃ i,P.underlying t=some (.slice e)∧P.info? e=some i∧i.zero=some z∧i.size=1∧i.bytes=bytes∧z.cells=#[z]
theorem slZ_of{P:Program}{t:TypeId}{z:Value}{bytes:Nat}(h1:P.underlying t=some (.slice e))
  (h2:(P.info? e).map (fun i=>(i.zero,i.size,i.bytes))=some (some z,1,bytes)) (h3:z.cells=#[z]):SlZ P t e z bytes:=by
 cases hi:P.info? e with
 | none=>simp [hi] at h2
 | some i=>simp [hi] at h2;exact⟨i,h1,hi,h2.1,h2.2.1,h2.2.2,h3⟩
section
variable {P : Program} {t e : TypeId} {size bytes : Nat} {w : World} {ops : Array Oper} {rest : List Oper} {o : Oper} {a : Act} {Q : Exit → Act → World → Prop}
theorem wpList_append_row(T:SlT P t e size bytes)(hgd:o.guard=none)(s x:Operand)
  (ho:o.op=.call {callee:=.builtin .append,args:=#[s,x],argTypes:=#[t,t]})
  (base:Nat) (v:Value) (n:Nat) (xs:List Value) (hown:w.ownsRow base e size v n xs) (hs:a.eval s=v)
  (vx:Value) (m:Nat) (news:List Value) (hrow:Row w vx m size news) (hx:a.eval x=vx) (h1:∀ u∈news,u.oneCell'=true)
  (h63:n+m≤maxLen) (hbytes:(n+m)*bytes≤140737488355328) (hbase:base≤w.heap.size)
  (h:∀ v' w',w'.ownsRow base e size v' (n+m) (xs++news)→w.grownBy w' v.ownBlock→wpList P ops Q rest (a.put o.dst v') w'):wpList P ops Q (o :: rest) a w:=by
 obtain⟨i,z,ht,hi,hz,hsize,hby,hzs,hsz⟩:=T.out;obtain⟨hl,ad,cap,rfl,hmc,_,hnil,hc⟩:=hrow;cases ad with
 | none =>
  have h0:=hnil rfl;subst h0;have hm:m=0:=by omega
  subst hm;have hn0:news=[]:=List.eq_nil_of_length_eq_zero (by simpa using hl);subst hn0;refine wpList_plain hgd fun K hK => ?_;have hr:=run_append_owned_none (P:=P) w base t o.type e i size ht hi v n xs hown;unfold Oper.wp execOp;simp only [ho,resolve,invoke,builtin,Sem.run_bind,Sem.run_pure,Result.andThen_ok,List.map_toArray,List.map_cons,List.map_nil,hs,hx,hr];exact hK _ _ (h v w (by simpa using hown) ⟨rfl,rfl,rfl,Nat.le_refl _,fun _ _ _=>rfl⟩)
 | some ad =>
  refine wpList_append_own w hgd s x t ho base e i z size bytes ht hi hz hsize hby hzs hsz v n xs hs hown ad m cap news hx hl ?_ h1 h63 hbytes hbase fun v' w' h2 h3 _=>h v' w' h2 h3;intro j u hu;have hm:m≠0:=by intro hm;rw [hm,Nat.zero_mul] at hl;rw [List.eq_nil_of_length_eq_zero hl] at hu;cases hu
  obtain⟨b,off,hb,_,hcell⟩:=hc hm;cases hb
  rw [Addr.add_lit];exact hcell j u hu
theorem wpList_make_zeros{z:Value}(T:SlZ P t e z bytes)(hgd:o.guard=none)(l c:Operand)(hop:o.op=Op.makeSlice t l c)
  (base:Nat) (n:Nat) (C:Int) (hl:a.eval l=.int .i64 C) (hc:a.eval c=.int .i64 C) (hC:C=(n:Int)) (b2:bytes*n≤281474976710656) (b3:n≤maxLen) (b4:base≤w.heap.size)
  (hK:∀ w',w'.ownsRow base e 1 (.slice (some ⟨w.heap.size,0,none⟩) n n) n (List.replicate n z)→w.grownBy w' none→wpList P ops Q rest (a.put o.dst (.slice (some ⟨w.heap.size,0,none⟩) n n)) w') :
  wpList P ops Q (o :: rest) a w:=by obtain⟨i,h1,h2,h3,h4,h5,h6⟩:=T.out;subst h5;refine wpList_make_full w hgd l c t hop base e i z 1 h1 h2 h3 h4 .i64 .i64 C C n hl hc hC hC b2 b3 b4 fun w' ho hg=>hK w' ?_ hg;rw [h6,Nat.mul_one,toList_madeCells_one] at ho;exact ho
theorem grown_alloc{o:Obj}{row:Option Nat}(h:(w.alloc o).grownBy w' row):w.grownBy w' row:=
 ⟨h.os,h.tape,h.output,Nat.le_trans (by simp) h.size,fun k hk hr=>(h.block k (by simp;omega) hr).trans (Below.heap_alloc _ _ _ hk)⟩
theorem wpList_append_new(T:SlT P t e size bytes)(hgd:o.guard=none)(s x:Operand)
  (ho:o.op=.call {callee:=.builtin .append,args:=#[s,x],argTypes:=#[t,t]})
  (base:Nat) (cs:Array Value) (e2:TypeId) (m:Nat) (v:Value) (n:Nat) (xs:List Value) (hown:w.ownsRow base e size v n xs) (hs:a.eval s=v)
  (hx:a.eval x=.slice (some ⟨w.heap.size,0,none⟩) m m) (hcs:cs.size=m*size) (h1:cs.toList.all (fun u=>u.oneCell')=true)
  (hN:n+m≤1099511627776) (hby:bytes≤128) (hbase:base≤w.heap.size)
  (h:∀ v' w',w'.ownsRow base e size v' (n+m) (xs++cs.toList)→w.grownBy w' v.ownBlock→wpList P ops Q rest (a.put o.dst v') w'):wpList P ops Q (o :: rest) a (w.alloc (.cells cs e2)):=by
 have hb:(n+m)*bytes≤1099511627776*128:=Nat.mul_le_mul hN hby;have hN':n+m≤maxLen:=by unfold maxLen;omega
 refine wpList_append_row T hgd s x ho base v n xs (hown.alloc _) hs _ m cs.toList (own_row (World.ownsRow_lit w cs m (Nat.zero_le _) (by omega) hcs)) hx ?_ hN' (by omega) (by simp;omega) fun v' w' h2 h3=>h v' w' h2 (grown_alloc h3);intro u hu;exact List.all_eq_true.1 h1 u hu
def Drawn(w w':World):Prop:=∃ n,w'={w with drawn:=n}
theorem drf(w:World):Drawn w w:=⟨w.drawn,rfl⟩
theorem ddw(w:World):Drawn w w.drew:=⟨w.drawn+1,rfl⟩
theorem dad(w:World)(o:Obj)(n:Nat):Drawn (w.alloc o) ((w.drewN n).alloc o):=⟨w.drawn+n,rfl⟩
theorem Drawn.owns(h:Drawn w w')(ho:w.ownsRow B e sz v n cs):w'.ownsRow B e sz v n cs:=by obtain⟨n,rfl⟩:=h;exact ho
theorem Drawn.row(h:Drawn w w')(ho:Row w v n sz cs):Row w' v n sz cs:=by obtain⟨n,rfl⟩:=h;exact ho
theorem apD(T:SlT P t e size bytes)(hgd:o.guard=none)(s x:Operand)
  (ho:o.op=.call {callee:=.builtin .append,args:=#[s,x],argTypes:=#[t,t]})
  (base:Nat) (cs:Array Value) (e2:TypeId) {wx:World} (hd:Drawn (w.alloc (.cells cs e2)) wx) (m:Nat) (v:Value) (n:Nat) (xs:List Value) (hown:w.ownsRow base e size v n xs) (hs:a.eval s=v)
  (hx:a.eval x=.slice (some ⟨w.heap.size,0,none⟩) m m) (hcs:cs.size=m*size) (h1:cs.toList.all (fun u=>u.oneCell')=true)
  (hN:n+m≤1099511627776) (hby:bytes≤128) (hbase:base≤w.heap.size)
  (h:∀ v' w',w'.ownsRow base e size v' (n+m) (xs++cs.toList)→w.grownBy w' v.ownBlock→wpList P ops Q rest (a.put o.dst v') w'):wpList P ops Q (o :: rest) a wx:=by
 have hb:(n+m)*bytes≤1099511627776*128:=Nat.mul_le_mul hN hby;have hN':n+m≤maxLen:=by unfold maxLen;omega
 have hsz:wx.heap.size=w.heap.size+1:=by obtain⟨n,rfl⟩:=hd;simp
 refine wpList_append_row T hgd s x ho base v n xs (hd.owns (hown.alloc _)) hs _ m cs.toList (hd.row (own_row (World.ownsRow_lit w cs m (Nat.zero_le _) (by omega) hcs))) hx ?_ hN' (by omega) (by omega) fun v' w' h2 h3=>h v' w' h2 (grown_alloc (o:=.cells cs e2) ?_)
 · intro u hu;exact List.all_eq_true.1 h1 u hu
 obtain⟨n,rfl⟩:=hd;exact⟨h3.os,h3.tape,h3.output,h3.size,h3.block⟩
theorem wpList_append_old(T:SlT P t e size bytes)(hgd:o.guard=none)(s x:Operand)
  (ho:o.op=.call {callee:=.builtin .append,args:=#[s,x],argTypes:=#[t,t]})
  (base:Nat) (v:Value) (n:Nat) (xs:List Value) (hown:w.ownsRow base e size v n xs) (hs:a.eval s=v)
  (vx:Value) (m:Nat) (news:List Value) (hrow:Row w vx m size news) (hx:a.eval x=vx) (h1:∀ u∈news,u.oneCell'=true)
  (hN:n+m≤1099511627776) (hby:bytes≤128) (hbase:base≤w.heap.size)
  (h:∀ v' w',w'.ownsRow base e size v' (n+m) (xs++news)→w.grownBy w' v.ownBlock→wpList P ops Q rest (a.put o.dst v') w'):wpList P ops Q (o :: rest) a w:=by have hb:(n+m)*bytes≤1099511627776*128:=Nat.mul_le_mul hN hby;exact wpList_append_row T hgd s x ho base v n xs hown hs vx m news hrow hx h1 (by unfold maxLen;omega) (by omega) hbase h
end
theorem own_over(h:w.ownsRow B e sz v n cs)(hb:Be w w'):w'.ownsRow B e sz v n cs:=
 h.kept (row:=none) ⟨hb.os,hb.tape,hb.output,hb.size,fun k hk _=>hb.block k hk⟩ (by cases h:v.ownBlock <;> simp)
theorem bov{w0:World}(h:Below B w0 w)(hB:B≤w.heap.size)(h':Be w w'):Below B w0 w':=h.trans (h'.mono hB)
theorem bvo{w0 w w':World}(h:Below w0.heap.size w0 w)(h':Below w.heap.size w w'):Below w0.heap.size w0 w':=bov h h.size h'
theorem grown_over'{row:Option Nat}(h:w.grownBy w' row)(hg:∀ g,row=some g→w.heap.size≤g):Be w w':=
 (Below.refl w.heap.size w).grown h (Nat.le_refl _) hg
theorem bgr{w0:World}(hb:Below B w0 w)(hB:B≤w.heap.size)(hown:w.ownsRow B e sz v n cs)(hg:w.grownBy w' v.ownBlock):Below B w0 w':=
 hb.grown hg hB fun k hk=>(hown.lt k hk).1
end Go.Proofs.YtjccmcgglfncdaaGreatDoor
namespace Go.Proofs.YtjccmcgglfncdaaGreatDoor
open Go Go.RowKit
variable{cs r:List Value}{B g o:Nat}{a b c d e f x y:Value}{w w':World}
def Arr(w:World)(g:Nat)(cs:List Value):Prop:=∃ e,w.heap[g]? = some (.cells cs.toArray e (0,0))
theorem Arr.lt(h:Arr w g cs):g<w.heap.size:=by obtain⟨e,h⟩:=h;exact(Array.getElem?_eq_some_iff.1 h).1
theorem Arr.cell(h:Arr w g cs){j:Nat}{u:Value}(hu:cs[j]? = some u):w.cell? ⟨g,j,none⟩=some u:=by obtain⟨e,h⟩:=h;rw [cell_of_row w g j cs.toArray e (0,0) h];simpa using hu
theorem Arr.k    (h : Arr w g cs) (j : Nat) {u: Value} (hu : cs[j]? = some u) : w.cell? ⟨g, j, none⟩ = some u := h.cell hu
theorem Arr.c1(h:Arr w g (a::r)):w.cell? ⟨g,0,none⟩=some a∧g<w.heap.size:=⟨h.k 0 rfl,h.lt⟩
theorem Arr.c2(h:Arr w g (a::b::r)):w.cell? ⟨g,0,none⟩=some a∧w.cell? ⟨g,1,none⟩=some b∧g<w.heap.size:=⟨h.k 0 rfl,h.k 1 rfl,h.lt⟩
theorem Arr.c3(h:Arr w g (a::b::c::r)):w.cell? ⟨g,0,none⟩=some a∧w.cell? ⟨g,1,none⟩=some b∧w.cell? ⟨g,2,none⟩=some c∧g<w.heap.size:=⟨h.k 0 rfl,h.k 1 rfl,h.k 2 rfl,h.lt⟩
theorem Arr.c4(h:Arr w g (a::b::c::d::r)):w.cell? ⟨g,0,none⟩=some a∧w.cell? ⟨g,1,none⟩=some b∧w.cell? ⟨g,2,none⟩=some c∧w.cell? ⟨g,3,none⟩=some d∧g<w.heap.size:=⟨h.k 0 rfl,h.k 1 rfl,h.k 2 rfl,h.k 3 rfl,h.lt⟩
theorem Arr.c5(h:Arr w g (a::b::c::d::e::r)):w.cell? ⟨g,0,none⟩=some a∧w.cell? ⟨g,1,none⟩=some b∧w.cell? ⟨g,2,none⟩=some c∧w.cell? ⟨g,3,none⟩=some d∧w.cell? ⟨g,4,none⟩=some e∧g<w.heap.size:=⟨h.k 0 rfl,h.k 1 rfl,h.k 2 rfl,h.k 3 rfl,h.k 4 rfl,h.lt⟩
theorem Arr.c6(h:Arr w g (a::b::c::d::e::f::r)):w.cell? ⟨g,0,none⟩=some a∧w.cell? ⟨g,1,none⟩=some b∧w.cell? ⟨g,2,none⟩=some c∧w.cell? ⟨g,3,none⟩=some d∧w.cell? ⟨g,4,none⟩=some e∧w.cell? ⟨g,5,none⟩=some f∧g<w.heap.size:=⟨h.k 0 rfl,h.k 1 rfl,h.k 2 rfl,h.k 3 rfl,h.k 4 rfl,h.k 5 rfl,h.lt⟩
theorem Arr.c7(h:Arr w g (a::b::c::d::e::f::x::r)):w.cell? ⟨g,0,none⟩=some a∧w.cell? ⟨g,1,none⟩=some b∧w.cell? ⟨g,2,none⟩=some c∧w.cell? ⟨g,3,none⟩=some d∧w.cell? ⟨g,4,none⟩=some e∧w.cell? ⟨g,5,none⟩=some f∧w.cell? ⟨g,6,none⟩=some x∧g<w.heap.size:=⟨h.k 0 rfl,h.k 1 rfl,h.k 2 rfl,h.k 3 rfl,h.k 4 rfl,h.k 5 rfl,h.k 6 rfl,h.lt⟩
theorem Arr.c8(h:Arr w g (a::b::c::d::e::f::x::y::r)):w.cell? ⟨g,0,none⟩=some a∧w.cell? ⟨g,1,none⟩=some b∧w.cell? ⟨g,2,none⟩=some c∧w.cell? ⟨g,3,none⟩=some d∧w.cell? ⟨g,4,none⟩=some e∧w.cell? ⟨g,5,none⟩=some f∧w.cell? ⟨g,6,none⟩=some x∧w.cell? ⟨g,7,none⟩=some y∧g<w.heap.size:=⟨h.k 0 rfl,h.k 1 rfl,h.k 2 rfl,h.k 3 rfl,h.k 4 rfl,h.k 5 rfl,h.k 6 rfl,h.k 7 rfl,h.lt⟩
theorem Arr.c9{z:Value}(h:Arr w g (a::b::c::d::e::f::x::y::z::r)):w.cell? ⟨g,0,none⟩=some a∧w.cell? ⟨g,1,none⟩=some b∧w.cell? ⟨g,2,none⟩=some c∧w.cell? ⟨g,3,none⟩=some d∧w.cell? ⟨g,4,none⟩=some e∧w.cell? ⟨g,5,none⟩=some f∧w.cell? ⟨g,6,none⟩=some x∧w.cell? ⟨g,7,none⟩=some y∧w.cell? ⟨g,8,none⟩=some z∧g<w.heap.size:=⟨h.k 0 rfl,h.k 1 rfl,h.k 2 rfl,h.k 3 rfl,h.k 4 rfl,h.k 5 rfl,h.k 6 rfl,h.k 7 rfl,h.k 8 rfl,h.lt⟩
theorem rc1(h:g<w.heap.size∧∀ j u,(a::r)[j]? = some u→w.cell? ⟨g,o+j,none⟩=some u):w.cell? ⟨g,o,none⟩=some a∧g<w.heap.size:=⟨h.2 0 _ rfl,h.1⟩
theorem rc2(h:g<w.heap.size∧∀ j u,(a::b::r)[j]? = some u→w.cell? ⟨g,o+j,none⟩=some u):w.cell? ⟨g,o,none⟩=some a∧w.cell? ⟨g,o+1,none⟩=some b∧g<w.heap.size:=⟨h.2 0 _ rfl,h.2 1 _ rfl,h.1⟩
theorem rc3(h:g<w.heap.size∧∀ j u,(a::b::c::r)[j]? = some u→w.cell? ⟨g,o+j,none⟩=some u):w.cell? ⟨g,o,none⟩=some a∧w.cell? ⟨g,o+1,none⟩=some b∧w.cell? ⟨g,o+2,none⟩=some c∧g<w.heap.size:=⟨h.2 0 _ rfl,h.2 1 _ rfl,h.2 2 _ rfl,h.1⟩
theorem rc4(h:g<w.heap.size∧∀ j u,(a::b::c::d::r)[j]? = some u→w.cell? ⟨g,o+j,none⟩=some u):w.cell? ⟨g,o,none⟩=some a∧w.cell? ⟨g,o+1,none⟩=some b∧w.cell? ⟨g,o+2,none⟩=some c∧w.cell? ⟨g,o+3,none⟩=some d∧g<w.heap.size:=⟨h.2 0 _ rfl,h.2 1 _ rfl,h.2 2 _ rfl,h.2 3 _ rfl,h.1⟩
theorem rc5(h:g<w.heap.size∧∀ j u,(a::b::c::d::e::r)[j]? = some u→w.cell? ⟨g,o+j,none⟩=some u):w.cell? ⟨g,o,none⟩=some a∧w.cell? ⟨g,o+1,none⟩=some b∧w.cell? ⟨g,o+2,none⟩=some c∧w.cell? ⟨g,o+3,none⟩=some d∧w.cell? ⟨g,o+4,none⟩=some e∧g<w.heap.size:=⟨h.2 0 _ rfl,h.2 1 _ rfl,h.2 2 _ rfl,h.2 3 _ rfl,h.2 4 _ rfl,h.1⟩
theorem rc6(h:g<w.heap.size∧∀ j u,(a::b::c::d::e::f::r)[j]? = some u→w.cell? ⟨g,o+j,none⟩=some u):w.cell? ⟨g,o,none⟩=some a∧w.cell? ⟨g,o+1,none⟩=some b∧w.cell? ⟨g,o+2,none⟩=some c∧w.cell? ⟨g,o+3,none⟩=some d∧w.cell? ⟨g,o+4,none⟩=some e∧w.cell? ⟨g,o+5,none⟩=some f∧g<w.heap.size:=⟨h.2 0 _ rfl,h.2 1 _ rfl,h.2 2 _ rfl,h.2 3 _ rfl,h.2 4 _ rfl,h.2 5 _ rfl,h.1⟩
theorem rc7(h:g<w.heap.size∧∀ j u,(a::b::c::d::e::f::x::r)[j]? = some u→w.cell? ⟨g,o+j,none⟩=some u):w.cell? ⟨g,o,none⟩=some a∧w.cell? ⟨g,o+1,none⟩=some b∧w.cell? ⟨g,o+2,none⟩=some c∧w.cell? ⟨g,o+3,none⟩=some d∧w.cell? ⟨g,o+4,none⟩=some e∧w.cell? ⟨g,o+5,none⟩=some f∧w.cell? ⟨g,o+6,none⟩=some x∧g<w.heap.size:=⟨h.2 0 _ rfl,h.2 1 _ rfl,h.2 2 _ rfl,h.2 3 _ rfl,h.2 4 _ rfl,h.2 5 _ rfl,h.2 6 _ rfl,h.1⟩
theorem rc8(h:g<w.heap.size∧∀ j u,(a::b::c::d::e::f::x::y::r)[j]? = some u→w.cell? ⟨g,o+j,none⟩=some u):w.cell? ⟨g,o,none⟩=some a∧w.cell? ⟨g,o+1,none⟩=some b∧w.cell? ⟨g,o+2,none⟩=some c∧w.cell? ⟨g,o+3,none⟩=some d∧w.cell? ⟨g,o+4,none⟩=some e∧w.cell? ⟨g,o+5,none⟩=some f∧w.cell? ⟨g,o+6,none⟩=some x∧w.cell? ⟨g,o+7,none⟩=some y∧g<w.heap.size:=⟨h.2 0 _ rfl,h.2 1 _ rfl,h.2 2 _ rfl,h.2 3 _ rfl,h.2 4 _ rfl,h.2 5 _ rfl,h.2 6 _ rfl,h.2 7 _ rfl,h.1⟩
theorem rc9{z:Value}(h:g<w.heap.size∧∀ j u,(a::b::c::d::e::f::x::y::z::r)[j]? = some u→w.cell? ⟨g,o+j,none⟩=some u):w.cell? ⟨g,o,none⟩=some a∧w.cell? ⟨g,o+1,none⟩=some b∧w.cell? ⟨g,o+2,none⟩=some c∧w.cell? ⟨g,o+3,none⟩=some d∧w.cell? ⟨g,o+4,none⟩=some e∧w.cell? ⟨g,o+5,none⟩=some f∧w.cell? ⟨g,o+6,none⟩=some x∧w.cell? ⟨g,o+7,none⟩=some y∧w.cell? ⟨g,o+8,none⟩=some z∧g<w.heap.size:=⟨h.2 0 _ rfl,h.2 1 _ rfl,h.2 2 _ rfl,h.2 3 _ rfl,h.2 4 _ rfl,h.2 5 _ rfl,h.2 6 _ rfl,h.2 7 _ rfl,h.2 8 _ rfl,h.1⟩
theorem Arr.free(h:Arr w g cs)(j:Nat):w.frozen? ⟨g,j,none⟩=false:=by obtain⟨e,h⟩:=h;exact frozen_of_row w g j cs.toArray e h
theorem Arr.set(h:Arr w g cs)(j:Nat)(u:Value):Arr (w.setCell ⟨g,j,none⟩ u) g (cs.set j u):=by obtain⟨e,h⟩:=h;refine⟨e,?_⟩;rw [heap_setCell_same w g j cs.toArray e u h];simp
theorem Arr.set_other(h:Arr w g cs){a:Addr}(hn:g≠a.block)(u:Value):Arr (w.setCell a u) g cs:=by obtain⟨e,h⟩:=h;exact⟨e,by rw [heap_setCell_other w a g u hn];exact h⟩
theorem Arr.over(h:Arr w g cs)(hb:Be w w'):Arr w' g cs:=by have hl:=h.lt;obtain⟨e,h⟩:=h;exact⟨e,by rw [hb.block g hl];exact h⟩
theorem Arr.below(h:Arr w g cs)(hb:Below B w w')(hg:g<B):Arr w' g cs:=by obtain⟨e,h⟩:=h;exact⟨e,by rw [hb.block g hg];exact h⟩
theorem Arr.drew(h:Arr w g cs):Arr w.drew g cs:=h
theorem Arr.grown{row:Option Nat}(h:Arr w g cs)(hg:w.grownBy w' row)(hn:some g≠row):Arr w' g cs:=by have hl:=h.lt;obtain⟨e,h⟩:=h;exact⟨e,by rw [hg.block g hl hn];exact h⟩
theorem Arr.row(h:Arr w g cs)(cs':List Value):Arr (w.setRow g cs'.toArray) g cs':=by obtain⟨e,h⟩:=h;exact⟨e,setRow_heap w g _ _ e _ h⟩
theorem Arr.row_other{g':Nat}(h:Arr w g cs)(hn:g≠g')(c:Array Value):Arr (w.setRow g' c) g cs:=by obtain⟨e,h⟩:=h;exact⟨e,by rw [setRow_other w g' g c hn];exact h⟩
theorem anw(w:World)(cs:Array Value)(e:TypeId):Arr (w.alloc (.cells cs e)) w.heap.size cs.toList:=⟨e,by rw [heap_alloc_new]⟩
theorem an2(w:World)(o:Obj)(cs:Array Value)(e:TypeId):Arr ((w.alloc o).alloc (.cells cs e)) (w.heap.size+1) cs.toList:=by have:=anw (w.alloc o) cs e;simpa using this
theorem arr_new3(w:World)(o o':Obj)(cs:Array Value)(e:TypeId):Arr (((w.alloc o).alloc o').alloc (.cells cs e)) (w.heap.size+1+1) cs.toList:=by have:=an2 (w.alloc o) o' cs e;simpa using this
theorem Arr.alloc(h:Arr w g cs)(o:Obj):Arr (w.alloc o) g cs:=h.over ((Below.refl _ _).alloc (Nat.le_refl _) o)
theorem below_setRow{w0:World}(h:Below B w0 w)(hg:B≤g)(c:Array Value):Below B w0 (w.setRow g c):=
 h.trans ⟨rfl,rfl,rfl,by simp,fun k hk=>setRow_other w g k c (by omega)⟩
def isRowD:TypeDesc→Bool
 | .struct _|.array _ _=>true
 | _=>false
structure RowT (P:Program) (ty:TypeId) (size:Nat):Prop where
 out:∃ d i,P.underlying ty=some d∧isRowD d=true∧P.info? ty=some i∧i.size=size
theorem rowT_of{P:Program}{ty:TypeId}{size:Nat}{d:TypeDesc}(h1:P.underlying ty=some d)(h2:isRowD d=true)
  (h3:(P.info? ty).map (·.size)=some size):RowT P ty size:=by
 cases hi:P.info? ty with
 | none=>simp [hi] at h3
 | some i=>simp [hi] at h3;exact⟨d,i,h1,h2,hi,h3⟩
section
variable {P : Program} {ty : TypeId} {size : Nat} {w : World} {ops : Array Oper} {rest : List Oper} {o : Oper} {a : Act} {Q : Exit → Act → World → Prop}
theorem wpList_load_arr(T:RowT P ty size)(hgd:o.guard=none)(x:Operand)(ho:o.op=.load ty x)(g:Nat)(cs:List Value)(hA:Arr w g cs)(hx:a.eval x=.pointer (some ⟨g,0,none⟩))(hl:cs.length=size)
  (h:wpList P ops Q rest (a.put o.dst (.agg cs.toArray)) w):wpList P ops Q (o :: rest) a w:=by obtain⟨d,i,h1,h2,h3,h4⟩:=T.out;obtain⟨e,hg⟩:=hA;exact wpList_load_row hgd ty x ho g hx e cs.toArray (0,0) d hg h1 (by cases d <;> simp_all [isRowD]) (by rw [h3];simp [h4,hl]) h
theorem run_store_arr(T:RowT P ty size){new:List Value}(hA:Arr w g cs)(hl:cs.length=size)(hn:new.length=size)(h1:new.all (fun u=>u.oneCell')=true) :
  (storeVar ty ⟨g,0,none⟩ (.agg new.toArray)).run P w=.ok () (w.setRow g new.toArray):=by
 obtain⟨d,i,_,_,h3,h4⟩:=T.out;obtain⟨e,hg⟩:=hA;have hs:=run_storeCells_at (P:=P) g 0 e new 0 cs.toArray w hg (by simp;omega) (fun v hv=>List.all_eq_true.1 h1 v hv);have ht:(cs.toArray.toList.take (0+0)++new++cs.toArray.toList.drop (0+0+new.length)).toArray=new.toArray:=by simp;omega
 rw [ht] at hs;have hc:(Value.agg new.toArray).cells=new.toArray:=rfl;simp [storeVar,sizeOf,typeInfo,h3,h4,hc,hn,hs]
theorem wpList_store_arr(T:RowT P ty size)(hgd:o.guard=none)(x y:Operand)(ho:o.op=.store ty x y)(g:Nat)(cs new:List Value)(hA:Arr w g cs)(hx:a.eval x=.pointer (some ⟨g,0,none⟩))
  (hy:a.eval y=.agg new.toArray) (hl:cs.length=size) (hn:new.length=size) (h1:new.all (fun u=>u.oneCell')=true)
  (h:wpList P ops Q rest (a.put o.dst undef) (w.setRow g new.toArray)):wpList P ops Q (o :: rest) a w:=by refine wpList_plain hgd fun K hK => ?_;have hr:=run_store_arr T hA hl hn h1;unfold Oper.wp execOp;simp only [ho,hx,hy,Instr.storeAt,Instr.sureAddr,Sem.run_bind,Sem.run_pure,Result.andThen_ok,hr];exact hK _ _ h
theorem wpList_put_arr(T:RowT P ty size)(hgd:o.guard=none)(x y:Operand)(ho:o.op=.store ty x y)(g:Nat)(cs new:List Value)(hA:Arr w g cs)(hx:a.eval x=.pointer (some ⟨g,0,none⟩))
  (hy:a.eval y=.agg new.toArray) (hl:cs.length=size) (hn:new.length=size) (h1:new.all (fun u=>u.oneCell')=true)
  (h:∀ w',Arr w' g new→(∀ g' cs',g'≠g→Arr w g' cs'→Arr w' g' cs')→(∀ B w0,B≤g→Below B w0 w→Below B w0 w')→w'.heap.size=w.heap.size→wpList P ops Q rest (a.put o.dst undef) w'):wpList P ops Q (o :: rest) a w:=
 wpList_store_arr T hgd x y ho g cs new hA hx hy hl hn h1 (h _ (hA.row new) (fun g' cs' hg' h'=>h'.row_other hg' _) (fun B w0 hB hb=>below_setRow hb hB _) (by simp))
theorem results_arr(T:RowT P ty size){fn:Func}{p:Tmp}(h:fn.results=#[.cell p ty]){tmps:Array Value}(hA:Arr w g cs)(hp:tmps.getD p undef=.pointer (some ⟨g,0,none⟩))(hl:cs.length=size) :
  (results fn tmps).run P w=.ok (.agg cs.toArray) w:=by obtain⟨d,i,h1,h2,h3,h4⟩:=T.out;obtain⟨e,hg⟩:=hA;exact results_cell_row h tmps w g e cs.toArray (0,0) d hp hg h1 (by cases d <;> simp_all [isRowD]) (by rw [h3];simp [h4,hl])
end
def ArrT(w:World)(g:Nat)(e:TypeId)(cs:List Value):Prop:=w.heap[g]? = some (.cells cs.toArray e (0,0))
theorem ArrT.arr{e:TypeId}(h:ArrT w g e cs):Arr w g cs:=⟨e,h⟩
theorem arrT_new(w:World)(cs:List Value)(e:TypeId):ArrT (w.alloc (.cells cs.toArray e)) w.heap.size e cs:=by unfold ArrT;rw [heap_alloc_new]
theorem ArrT.over{e:TypeId}(h:ArrT w g e cs)(hb:Be w w'):ArrT w' g e cs:=by unfold ArrT at *;rw [hb.block g (Array.getElem?_eq_some_iff.1 h).1];exact h
theorem ArrT.ne{e e':TypeId}{xs:List Value}{sz n:Nat}{v:Value}(h:ArrT w g e cs)(ho:w.ownsRow B e' sz v n xs)(hn:e'≠e):some g≠v.ownBlock:=by
 rcases ho.2 with⟨rfl,_⟩|⟨g',cap,cur,rfl,_,hg,_⟩
 · simp [Value.ownBlock]
 intro he;simp only [Value.ownBlock,Option.some.injEq] at he;subst he;unfold ArrT at h;rw [h] at hg;simp only [Option.some.injEq,Obj.cells.injEq] at hg;exact hn hg.2.1.symm
theorem ArrT.grown{e e':TypeId}{xs:List Value}{sz n:Nat}{v:Value}(h:ArrT w g e cs)(ho:w.ownsRow B e' sz v n xs)(hn:e'≠e)(hg:w.grownBy w' v.ownBlock):ArrT w' g e cs:=by have hne:=h.ne ho hn;unfold ArrT at *;rw [hg.block g (Array.getElem?_eq_some_iff.1 h).1 hne];exact h
theorem ArrT.set{e:TypeId}(h:ArrT w g e cs)(j:Nat)(u:Value):ArrT (w.setCell ⟨g,j,none⟩ u) g e (cs.set j u):=by unfold ArrT at *;show(w.heap.modify g _)[g]? = _;rw [Array.getElem?_modify,if_pos rfl,h];simp
theorem ArrT.kept{e:TypeId}{row:Option Nat}(h:ArrT w g e cs)(hg:w.grownBy w' row)(hn:some g≠row):ArrT w' g e cs:=by unfold ArrT at *;rw [hg.block g (Array.getElem?_eq_some_iff.1 h).1 hn];exact h
theorem ArrT.set_other{e:TypeId}(h:ArrT w g e cs){a:Addr}(hn:g≠a.block)(u:Value):ArrT (w.setCell a u) g e cs:=by unfold ArrT at *;show(w.heap.modify a.block _)[g]? = _;rw [Array.getElem?_modify,if_neg (fun q=>hn q.symm),h]
end Go.Proofs.YtjccmcgglfncdaaGreatDoor
namespace Go.Proofs.YtjccmcgglfncdaaGreatDoor
open Go Go.RowKit
variable{i sz:Nat}{α:Type}{v:Value}{w:World}
theorem flat_len{f:α→List Value}(hf:∀ x,(f x).length=sz):∀ xs:List α,(xs.flatMap f).length=xs.length*sz
 | []=>by simp
 | x :: xs=>by simp only [List.flatMap_cons,List.length_append,hf,flat_len hf xs,List.length_cons,Nat.add_mul];omega
theorem flat_get{f:α→List Value}(hf:∀ x,(f x).length=sz):∀(xs:List α) (i j:Nat) (x:α),xs[i]? = some x→j<sz→(xs.flatMap f)[i*sz+j]? = (f x)[j]?
 | [],i,j,x,h,_=>by simp at h
 | y :: xs,0,j,x,h,hj=>by simp only [List.getElem?_cons_zero,Option.some.injEq] at h;subst h;rw [List.flatMap_cons,List.getElem?_append_left (by rw [hf];omega)];simp
 | y :: xs,i+1,j,x,h,hj=>by rw [List.flatMap_cons,List.getElem?_append_right (by rw [hf,Nat.add_mul];omega),hf,show(i+1)*sz+j - sz=i*sz+j by rw [Nat.add_mul];omega];exact flat_get hf xs i j x (by simpa using h) hj
theorem Row.form{n:Nat}{cs:List Value}(h:Row w v n sz cs):∃ a cap,v=.slice a n cap∧n≤cap∧cap≤maxLen∧(a=none→cap=0) ∧
  (n=0∨∃ b off,a=some ⟨b,off,none⟩∧b<w.heap.size∧∀ j u,cs[j]? = some u→w.cell? ⟨b,off+j,none⟩=some u):=by
 obtain⟨_,a,cap,rfl,h2,h3,h4,h5⟩:=h;refine⟨a,cap,rfl,h2,h3,h4,?_⟩
 by_cases hn:n=0
 · exact .inl hn
 exact .inr (h5 hn)
theorem Row.elem{f:α→List Value}(hf:∀ x,(f x).length=sz){xs:List α}{b off:Nat}(hc:∀ j u,(xs.flatMap f)[j]? = some u→w.cell? ⟨b,off+j,none⟩=some u)
   {x:α} (hx:xs[i]? = some x) {j:Nat} {u:Value} (hu:(f x)[j]? = some u):w.cell? ⟨b,off+i*sz+j,none⟩=some u:=by
 rw [Nat.add_assoc];refine hc _ _ ?_;have hj:j<sz:=by rw [← hf x];exact(List.getElem?_eq_some_iff.1 hu).1
 rw [flat_get hf xs i j x hx hj];exact hu
theorem tsg{xs:List α}{x:α}(h:xs[i]? = some x):xs.take (i+1)=xs.take i++[x]:=by obtain⟨hi,rfl⟩:=List.getElem?_eq_some_iff.1 h;exact List.take_succ_eq_append_getElem hi
theorem gol{xs:List α}(h:i<xs.length):∃ x,xs[i]? = some x:=⟨xs[i],List.getElem?_eq_getElem h⟩
def SRow(w:World)(v:Value)(xs:List ByteArray):Prop:=Row w v xs.length 1 (xs.map Value.string)
theorem SRow.over{w':World}{xs:List ByteArray}(h:SRow w v xs)(hb:Be w w'):SRow w' v xs:=Row.over h hb
theorem srow_nil(w:World):SRow w (.slice none 0 0) []:=row_nil w 1
theorem SRow.form{xs:List ByteArray}(h:SRow w v xs):∃ a cap,v=.slice a xs.length cap∧xs.length≤cap∧cap≤maxLen∧(a=none→cap=0) ∧
  (xs.length=0∨∃ b off,a=some ⟨b,off,none⟩∧b<w.heap.size∧∀ j x,xs[j]? = some x→w.cell? ⟨b,off+j,none⟩=some (.string x)):=by obtain⟨a,cap,h1,h2,h3,h4,h5⟩:=Row.form h;refine⟨a,cap,h1,h2,h3,h4,h5.imp id ?_⟩;rintro⟨b,off,e1,e2,hc⟩;exact⟨b,off,e1,e2,fun j x hx=>hc j _ (by simp [hx])⟩
section
variable {P : Program} {t e : TypeId} {size bytes : Nat} {w : World} {ops : Array Oper} {rest : List Oper} {o : Oper} {a : Act} {Q : Exit → Act → World → Prop}
end
theorem slice_row{a:Option Addr}{n cap l h:Nat}{cs:List Value}(hr:Row w (.slice a n cap) n sz cs)(h1:l≤h)(h2:h≤n):Row w (sliced a l h cap sz) (h - l) sz ((cs.drop (l*sz)).take ((h - l)*sz)):=by
 obtain⟨hl,a',cap',hv,hc,hm,hn,hcell⟩:=hr;obtain⟨rfl,_,rfl⟩:=Value.slice.inj hv;have hmul:(h - l)*sz+l*sz≤n*sz:=by rw [← Nat.add_mul];exact Nat.mul_le_mul_right _ (by omega)
 refine⟨by simp;omega,_,_,rfl,by omega,by omega,fun h0 => ?_,fun h0 => ?_⟩
 ·
  by_cases hcl:cap=l
  · omega
  rw [if_neg hcl] at h0;cases a with
  | none=>have:=hn rfl;omega
  | some ad=>cases h0
 obtain⟨b,off,rfl,hb,hcl⟩:=hcell (by omega);refine⟨b,off+l*sz,?_,hb,fun j u hu => ?_⟩
 ·
  by_cases hcl':cap=l
  · omega
  rw [if_neg hcl']
  by_cases h0':l*sz=0
  · simp [Addr.add,h0']
  simp [Addr.add,h0']
 have hj:j<(h - l)*sz:=by have:=(List.getElem?_eq_some_iff.1 hu).1;simp at this;omega
 have:=hcl (l*sz+j) u (by rw [List.getElem?_take,if_pos hj,List.getElem?_drop] at hu;exact hu);rw [← Nat.add_assoc] at this;exact this
section
variable {P : Program} {t e : TypeId} {size bytes : Nat} {w : World} {ops : Array Oper} {rest : List Oper} {o : Oper} {a : Act} {Q : Exit → Act → World → Prop}
theorem lxs{C:World→Prop}{loud:Nat→Bool}{Q:Act→World→Prop}{k:Nat}{o:Oper}{l:List Oper}{a:Act}{g:Nat × Bool}(hg:o.guard=some g)(hw:Region.wanted o (yielded ops a.tmps)=false)
  (h:wpLex P ops C loud Q (k+1) l (a.put o.dst undef) w):wpLex P ops C loud Q k (o :: l) a w:=by unfold wpLex;rw [if_neg (by rw [hw];decide)];exact h
end
section
variable {P : Program} {t e : TypeId} {size bytes : Nat} {w : World} {ops : Array Oper} {rest : List Oper} {o : Oper} {a : Act} {Q : Exit → Act → World → Prop}
theorem wpList_append_newH(T:SlT P t e size bytes)(hgd:o.guard=none)(s x:Operand)
  (ho:o.op=.call {callee:=.builtin .append,args:=#[s,x],argTypes:=#[t,t]})
  (base:Nat) (cs:Array Value) (e2:TypeId) (H:Nat) (hH:w.heap.size=H) (m:Nat) (v:Value) (n:Nat) (xs:List Value) (hown:w.ownsRow base e size v n xs) (hs:a.eval s=v)
  (hx:a.eval x=.slice (some ⟨H,0,none⟩) m m) (hcs:cs.size=m*size) (h1:cs.toList.all (fun u=>u.oneCell')=true)
  (hN:n+m≤1099511627776) (hby:bytes≤128) (hbase:base≤H)
  (h:∀ v' w',w'.ownsRow base e size v' (n+m) (xs++cs.toList)→w.grownBy w' v.ownBlock→wpList P ops Q rest (a.put o.dst v') w'):wpList P ops Q (o :: rest) a (w.alloc (.cells cs e2)):=by subst hH;exact wpList_append_new T hgd s x ho base cs e2 m v n xs hown hs hx hcs h1 hN hby hbase h
end
end Go.Proofs.YtjccmcgglfncdaaGreatDoor
