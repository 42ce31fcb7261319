/- A region that draws its order, whose calls are chained and whose other operations only look at older memory: one walk in the order of the text serves every order. -/
import Derived.Test.YtanfebljiblhbaaGreatDoorRows
import Derived.Deep.QuietTactic
import Derived.BigQuiet
import Derived.StillTail
import Derived.Below
set_option linter.unusedVariables false
set_option linter.unusedSimpArgs false
namespace Go.Proofs.YtanfebljiblhbaaGreatDoor
open Go Go.RowKit
section
variable {P : Program} {ops : Array Oper} {md : Region.Mode} {C : World → Prop} {loud : Nat → Bool}

/-- kinds of operations that hand back a value and enter no function -/
def calmOp:Op→Bool
 | .move _|.assign _|.pick .. | .load .. | .binOp .. | .unOp .. | .convert .. | .extract .. | .field .. | .fieldAddr .. | .indexAddr .. | .index .. | .slice .. | .lookup .. | .makeInterface .. | .nilCheck .. => true
 | .call c=>match c.callee with
  | .builtin .len|.builtin .cap|.builtin .max|.builtin .min=>true
  | _=>false
 | _=>false

theorem run_v{s:Sem Value}{f:FuncId}{args:Array Value}{w w':World}:Sem.run P (do pure (Next.value (← s)):Sem Next) w≠.ok (.enter f args) w':=by
 simp only [Sem.run_bind]
 cases Sem.run P s w <;> simp

theorem calm_noEnter{o:Oper}{ρ:Operand→Value}{w w':World}{f:FuncId}{args:Array Value}(hc:calmOp o.op=true) :
  (execOp ρ o).run P w≠.ok (.enter f args) w':=by
 unfold execOp
 cases ho:o.op <;> rw [ho] at hc <;> simp only [calmOp] at hc <;> try(exact absurd hc (by decide))
 case move x=>simp
 case assign x=>simp
 case pick c x y =>
  simp only [Sem.run_bind]
  cases Sem.run P (asBool (ρ c)) w <;> simp
 case call c =>
  cases hcc:c.callee with
  | value g=>rw [hcc] at hc;simp at hc
  | invoke r m=>rw [hcc] at hc;simp at hc
  | builtin b =>
   rw [hcc] at hc
   simp only [resolve,hcc,invoke,Sem.run_bind,Sem.run_pure,Result.andThen_ok]
   cases b <;> simp at hc <;> simp only [builtin] <;> exact run_v
 case nilCheck x =>
  dsimp only
  generalize ρ x=y
  have hp:Sem.run P (runtimePanic (α:=Next) RuntimeError.nilDeref) w≠Result.ok (Next.enter f args) w':=by
   simp [runtimePanic,goPanic]
  split
  ·
   exact hp
  ·
   exact hp
  ·
   exact hp
  ·
   split
   ·
    exact hp
   ·
    simp only [Sem.run_bind]
    intro h
    cases h1:Sem.run P program w with
    | halt c w1=>rw [h1] at h;simp at h
    | ok p w1 =>
     rw [h1] at h
     simp only [Result.andThen_ok] at h
     rename_i t u _
     cases h2:Sem.run P (nilAhead (p.types.size+Made.depth) t u _) w1 with
     | halt c w2=>rw [h2] at h;simp at h
     | ok q w2 =>
      rw [h2] at h
      simp only [Result.andThen_ok] at h
      split at h <;> simp [unsupported] at h
   ·
    simp
  ·
   simp
 all_goals exact run_v

/-- nothing is asked to hold behind a panic -/
def NoWay:Exit→Act→World→Prop:=fun _ _ _=>False
theorem letsOut_noWay:¬ LetsOut NoWay:=fun⟨_,_,h⟩=>h

theorem wp_noWay{o:Oper}{a:Act}{w:World}{K K':Act→World→Prop}{Q:Exit→Act→World→Prop}(h:∀ a w,K a w→K' a w)
  (hh:o.wp P a w K NoWay):o.wp P a w K' Q:=by
 unfold Oper.wp at *
 generalize (execOp a.eval o).run P w=r at *
 cases r with
 | ok n w' =>
  cases n <;> simp only [Oper.upon] at hh ⊢ <;>
   first
    | exact h _ _ hh
    | exact Calls.mono hh (fun e w'' he=>by
      cases e with
      | returned v=>exact h _ _ he
      | panicked c=>exact he.elim
      | outgrown=>exact(letsOut_noWay he).elim)
    | exact Rows.mono hh (fun _ _ he=>h _ _ he)
 | halt x w'=>cases x <;> simp only [Oper.upon] at hh ⊢ <;> exact hh.elim

/-- an outcome of an operation that goes through -/
theorem wp_some{o:Oper}{a:Act}{w:World}{K:Act→World→Prop}{X:Prop}(hh:o.wp P a w K NoWay)
  (hx:∀ ds v w',K (({a with defers:=ds}:Act).put o.dst v) w'→X):X:=by
 unfold Oper.wp at hh
 generalize (execOp a.eval o).run P w=r at *
 cases r with
 | ok n w' =>
  cases n <;> simp only [Oper.upon] at hh
  case value u=>exact hx a.defers _ _ hh
  case skip=>exact hx a.defers _ _ hh
  case defer d=>exact hx _ _ _ hh
  case enter f args =>
   obtain⟨e,w'',fr,hR,_⟩:=hh []
   cases e with
   | returned v=>exact hx a.defers _ _ hR
   | panicked c=>exact hR.elim
   | outgrown=>exact(letsOut_noWay hR).elim
  case row row args =>
   obtain⟨v,w'',hR,_⟩:=hh (Frame.enter P 0 #[] .normal) []
   exact hx a.defers _ _ hR
 | halt x w'=>cases x <;> simp only [Oper.upon] at hh <;> exact hh.elim

theorem put_defers'(a:Act)(x:Option Tmp)(v:Value)(ds:List Deferred):({a.put x v with defers:=ds}:Act)=({a with defers:=ds}:Act).put x v:=by
 cases x <;> rfl

/-- an operation that is carried out behind another one's value, which it does not look at -/
theorem wp_behind{o:Oper}{a:Act}{w:World}{d:Option Tmp}{u:Value}{K K':Act→World→Prop}(he:execOp (a.put d u).eval o=execOp a.eval o)(hh:o.wp P a w K NoWay)
  (h:∀ ds v w',K (({a with defers:=ds}:Act).put o.dst v) w'→K' ((({a with defers:=ds}:Act).put d u).put o.dst v) w'):o.wp P (a.put d u) w K' NoWay:=by
 unfold Oper.wp at *
 rw [he]
 generalize (execOp a.eval o).run P w=r at *
 have hd:∀ ds,({a.put d u with defers:=ds}:Act)=({a with defers:=ds}:Act).put d u:=put_defers' a d u
 have ha:({a with defers:=a.defers}:Act)=a:=rfl
 cases r with
 | ok n w' =>
  cases n <;> simp only [Oper.upon] at hh ⊢
  case value v=>exact h a.defers v w' hh
  case skip=>exact h a.defers undef w' hh
  case defer x =>
   have e1:(a.put d u).defers=a.defers:=by cases d <;> rfl
   rw [e1,hd]
   exact h _ _ _ hh
  case enter f args =>
   refine Calls.mono hh fun e w'' he => ?_
   cases e with
   | returned v=>exact h a.defers v w'' he
   | panicked c=>exact he.elim
   | outgrown=>exact he
  case row row args=>exact Rows.mono hh fun v w'' he=>h a.defers v w'' he
 | halt x w'=>cases x <;> simp only [Oper.upon] at hh <;> exact hh.elim

/-- operation number i comes up -/
def xOp(P:Program)(ops:Array Oper)(C:World→Prop)(loud:Nat→Bool)(i:Nat)(K:Act→World→Prop)(a:Act)(w:World):Prop:=
 match ops[i]? with
 | none=>K a w
 | some o =>
  if Region.wanted o (yielded ops a.tmps) then
   if loud i then o.wp P a w (fun a' w'=>C w'∧K a' w') NoWay else o.quiet P a C (fun a'=>K a' w)
  else K (a.put o.dst undef) w

theorem xOp_mono{i:Nat}{a:Act}{w:World}{K K':Act→World→Prop}(hC:C w)(h:∀ a w,C w→K a w→K' a w)(hh:xOp P ops C loud i K a w):xOp P ops C loud i K' a w:=by
 unfold xOp at *
 split
 ·
  simp only [*] at hh;exact h _ _ hC hh
 ·
  rename_i o ho
  simp only [ho] at hh
  split
  ·
   rename_i hw
   simp only [hw,if_true] at hh
   split
   ·
    rename_i hl;simp only [hl,if_true] at hh;exact Oper.wp_mono (fun a w hk=>⟨hk.1,h _ _ hk.1 hk.2⟩) hh
   ·
    rename_i hl;simp only [hl] at hh;exact Oper.quiet_mono (fun a hk=>h _ _ hC hk) hh
  ·
   rename_i hw;simp only [hw] at hh;exact h _ _ hC hh

theorem xOp_some{i:Nat}{a:Act}{w:World}{K:Act→World→Prop}{X:Prop}(hC:C w)(hh:xOp P ops C loud i K a w)(hx:∀ a w,C w→K a w→X):X:=by
 unfold xOp at hh
 split at hh
 ·
  exact hx _ _ hC hh
 ·
  split at hh
  ·
   split at hh
   ·
    exact wp_some hh fun ds v w' hk=>hx _ _ hk.1 hk.2
   ·
    obtain⟨v,_,hk⟩:=hh;exact hx _ _ hC hk
  ·
   exact hx _ _ hC hh

/-- a calm operation's value is one -/
theorem quiet_one{o:Oper}{a:Act}{w:World}{u v:Value}(hc:calmOp o.op=true)(h1:o.quietAt P a C w u)(h2:o.quietAt P a C w v):u=v:=by
 unfold Oper.quietAt at *
 have hne:=fun f args w'=>calm_noEnter (P:=P) (ρ:=a.eval) (w:=w) (w':=w') (f:=f) (args:=args) hc
 generalize (execOp a.eval o).run P w=r at *
 cases r with
 | ok n w' =>
  cases n <;> simp only [Oper.quietUpon] at h1 h2
  case value x=>rw [← h1.2,← h2.2]
  case skip=>rw [h1.2,h2.2]
  case enter f args=>exact absurd rfl (hne f args w')
 | halt x w'=>simp only [Oper.quietUpon] at h1

theorem yields_one{o:Oper}{a:Act}{w:World}{u v:Value}(hC:C w)(hc:calmOp o.op=true)(h1:YieldsIn P ops C o u a)(h2:YieldsIn P ops C o v a):u=v:=by
 rcases h1 with⟨hw,h1⟩|⟨hw,rfl⟩ <;> rcases h2 with⟨hw',h2⟩|⟨hw',rfl⟩
 ·
  exact quiet_one hc (h1 w hC) (h2 w hC)
 ·
  rw [hw] at hw';cases hw'
 ·
  rw [hw] at hw';cases hw'
 ·
  rfl

theorem xOp_of_yields{i:Nat}{o:Oper}{a:Act}{w:World}{v:Value}{K:Act→World→Prop}(hi:ops[i]? = some o)(hl:loud i=false∨Region.wanted o (yielded ops a.tmps)=false)
  (hy:YieldsIn P ops C o v a) (h:K (a.put o.dst v) w):xOp P ops C loud i K a w:=by
 unfold xOp
 simp only [hi]
 rcases hy with⟨hw,hv⟩|⟨hw,rfl⟩
 ·
  simp only [hw,if_true]
  rcases hl with hl|hl
  ·
   simp only [hl];exact⟨v,hv,h⟩
  ·
   rw [hw] at hl;cases hl
 ·
  simp only [hw];exact h

/-- what a calm or unwanted operation shows -/
theorem yields_of_xOp{i:Nat}{o:Oper}{a:Act}{w:World}{K:Act→World→Prop}(hi:ops[i]? = some o)(hl:loud i=false∨Region.wanted o (yielded ops a.tmps)=false)
  (h:xOp P ops C loud i K a w):∃ v,YieldsIn P ops C o v a∧K (a.put o.dst v) w:=by
 unfold xOp at h
 simp only [hi] at h
 by_cases hw:Region.wanted o (yielded ops a.tmps)=true
 ·
  simp only [hw,if_true] at h
  rcases hl with hl|hl
  ·
   simp only [hl] at h
   obtain⟨v,h1,h2⟩:=h
   exact⟨v,.inl ⟨hw,h1⟩,h2⟩
  ·
   rw [hw] at hl;cases hl
 ·
  simp only [hw] at h
  exact⟨undef,.inr ⟨by simpa using hw,rfl⟩,h⟩

/-- an operation 'oj' behind one whose value is settled -/
theorem xOp_put{j:Nat}{oi oj:Oper}{v:Value}(hj:ops[j]? = some oj)(hap:oi.apart ops oj=true)
  (hsi:∀ cs b,oi.op≠.select cs b) (hsj:∀ cs b,oj.op≠.select cs b) {K:Act→World→Prop} {a:Act} {w:World}
  (hy:YieldsIn P ops C oi v a) (h:xOp P ops C loud j K (a.put oi.dst v) w) :
  xOp P ops C loud j (fun a' w'=>(YieldsIn P ops C oi v a'∧Region.wanted oi (yielded ops a'.tmps)=Region.wanted oi (yielded ops a.tmps))∧K (a'.put oi.dst v) w') a w:=by
 obtain⟨h1,h2,h3⟩:=Oper.apart_spec hap
 have keep:∀(ds:List Deferred) (u:Value),YieldsIn P ops C oi v (({a with defers:=ds}:Act).put oj.dst u)∧Region.wanted oi (yielded ops (({a with defers:=ds}:Act).put oj.dst u).tmps)=Region.wanted oi (yielded ops a.tmps):=fun ds u =>
  ⟨hy.of_same ((execOp_put oi hsi ({a with defers:=ds}:Act) oj.dst u h3).trans rfl) ((wanted_put oi ({a with defers:=ds}:Act) oj.dst u h3).trans rfl),(wanted_put oi ({a with defers:=ds}:Act) oj.dst u h3).trans rfl⟩
 unfold xOp at *
 simp only [hj] at *
 rw [wanted_put oj a oi.dst v h1] at h
 split
 ·
  rename_i hw
  simp only [hw,if_true] at h
  split
  ·
   rename_i hl
   simp only [hl,if_true] at h
   unfold Oper.wp at *
   rw [execOp_put oj hsj a oi.dst v h1] at h
   generalize (execOp a.eval oj).run P w=r at *
   cases r with
   | ok n w' =>
    cases n <;> simp only [Oper.upon] at h ⊢
    case value u=>exact⟨h.1,keep a.defers u,by rw [← Act.put_comm a v u h2];exact h.2⟩
    case skip=>exact⟨h.1,keep a.defers _,by rw [← Act.put_comm a v undef h2];exact h.2⟩
    case defer d=>exact⟨h.1,keep _ _,by rw [← Act.put_comm _ v undef h2,← Act.put_defers];exact h.2⟩
    case enter f args =>
     refine Calls.mono h fun e w'' he => ?_
     cases e with
     | returned u=>exact⟨he.1,keep a.defers u,by rw [← Act.put_comm a v u h2];exact he.2⟩
     | panicked c=>exact he.elim
     | outgrown=>exact he
    case row row args=>exact Rows.mono h fun u w'' he=>⟨he.1,keep a.defers u,by rw [← Act.put_comm a v u h2];exact he.2⟩
   | halt x w'=>cases x <;> simp only [Oper.upon] at h ⊢ <;> exact h.elim
  ·
   rename_i hl
   simp only [hl] at h
   obtain⟨u,hu,hn⟩:=h
   refine⟨u,fun w hw' => ?_,keep a.defers u,by rw [← Act.put_comm a v u h2];exact hn⟩
   have:=hu w hw'
   unfold Oper.quietAt at *
   rwa [execOp_put oj hsj a oi.dst v h1] at this
 ·
  rename_i hw
  simp only [hw] at h
  exact⟨keep a.defers _,by rw [← Act.put_comm a v undef h2];exact h⟩

/-- two operations that are apart, not both loud: the second may come first -/
theorem xOp_comm{i j:Nat}{oi oj:Oper}(hi:ops[i]? = some oi)(hj:ops[j]? = some oj)(hap:oi.apart ops oj=true)
  (hsi:∀ cs b,oi.op≠.select cs b) (hsj:∀ cs b,oj.op≠.select cs b) (hcj:loud j=false→calmOp oj.op=true) (hno:loud i=true→loud j=true→False)
  {K:Act→World→Prop} {a:Act} {w:World} (hC:C w) (h:xOp P ops C loud i (fun a' w'=>xOp P ops C loud j K a' w') a w) :
  xOp P ops C loud j (fun a' w'=>xOp P ops C loud i K a' w') a w:=by
 by_cases hl:loud i=false∨Region.wanted oi (yielded ops a.tmps)=false
 ·
  obtain⟨v,hy,hk⟩:=yields_of_xOp hi hl h
  refine xOp_mono hC (fun a' w' _ hk' => ?_) (xOp_put hj hap hsi hsj hy hk)
  obtain⟨⟨hy',hw'⟩,hk''⟩:=hk'
  exact xOp_of_yields hi (hl.imp id fun h=>hw'.trans h) hy' hk''
 ·
  have hl':loud i=true∧Region.wanted oi (yielded ops a.tmps)=true:=by
   simpa using hl
  obtain⟨hli,hwi⟩:=hl'
  have hlj:loud j=false:=by
   cases hlj:loud j with
   | false=>rfl
   | true=>exact(hno hli hlj).elim
  obtain⟨h1,h2,h3⟩:=Oper.apart_spec hap
  unfold xOp at h
  simp only [hi,hwi,hli,if_true] at h
  have same:∀(ds:List Deferred) (v u:Value),YieldsIn P ops C oj u (({a with defers:=ds}:Act).put oi.dst v)↔YieldsIn P ops C oj u a:=fun ds v u=>by
   have e1:=(execOp_put oj hsj ({a with defers:=ds}:Act) oi.dst v h1).trans (show execOp ({a with defers:=ds}:Act).eval oj=execOp a.eval oj from rfl)
   have e2:=(wanted_put oj ({a with defers:=ds}:Act) oi.dst v h1).trans (show Region.wanted oj (yielded ops ({a with defers:=ds}:Act).tmps)=Region.wanted oj (yielded ops a.tmps) from rfl)
   exact⟨fun hy=>hy.of_same e1.symm e2.symm,fun hy=>hy.of_same e1 e2⟩
  have hy:∃ u,YieldsIn P ops C oj u a:=wp_some h fun ds v w' hk=>by
   obtain⟨u,hu,_⟩:=yields_of_xOp hj (.inl hlj) hk.2
   exact⟨u,(same ds v u).1 hu⟩
  obtain⟨u,hu⟩:=hy
  refine xOp_of_yields hj (.inl hlj) hu ?_
  unfold xOp
  simp only [hi,hli,if_true]
  rw [wanted_put oi a oj.dst u h3]
  simp only [hwi,if_true]
  refine wp_behind (execOp_put oi hsi a oj.dst u h3) h fun ds v w' hk=>⟨hk.1,?_⟩
  obtain⟨u',hu',hk'⟩:=yields_of_xOp hj (.inl hlj) hk.2
  have he:u'=u:=yields_one hk.1 (hcj hlj) ((same ds v u').1 hu') hu
  subst he
  rw [Act.put_comm _ u' v (fun d hd hd'=>h2 d hd' hd)]
  exact hk'

/-! ### arbitrary orders -/

/-- no two loud ones may come up together -/
def maskOf(m:List Nat)(es:List Edge):Nat:=es.foldr (fun e s=>if Region.binds .any e then 2 ^ e.on ||| m.getD e.on 0 ||| s else s) 0
def masksOf:List Oper→List Nat→List Nat
 | [],acc=>acc
 | o :: l,acc=>masksOf l (acc++[maskOf acc o.after.toList])

def ClosedL(ops:Array Oper)(listed:Array Bool):Prop:=∀ j oj,ops[j]? = some oj→listed.getD j false=true→∀ e∈oj.after,Region.binds .any e=true→listed.getD e.on false=true
def MasksOk(ops:Array Oper)(acc:List Nat):Prop:=∀(j M:Nat),acc[j]? = some M→∀ listed,ClosedL ops listed →
 (∀ oj,ops[j]? = some oj→∀ e∈oj.after,Region.binds .any e=true→listed.getD e.on false=true)→∀ i,M.testBit i=true→listed.getD i false=true

theorem maskOf_ok{acc:List Nat}{ops:Array Oper}{listed:Array Bool}(hacc:MasksOk ops acc)(hlen:acc.length≤ops.size)(hc:ClosedL ops listed):∀(es:List Edge),
  (∀ e∈es,Region.binds .any e=true→listed.getD e.on false=true)→∀ i,(maskOf acc es).testBit i=true→listed.getD i false=true
 | [],_,i,h=>by simp [maskOf] at h
 | e :: es,he,i,h=>by
  have ih:=maskOf_ok hacc hlen hc es (fun e' h'=>he e' (List.mem_cons_of_mem _ h')) i
  by_cases hb:Region.binds .any e=true
  ·
   have hm:maskOf acc (e :: es)=2 ^ e.on ||| acc.getD e.on 0 ||| maskOf acc es:=by simp [maskOf,hb]
   rw [hm,Nat.testBit_or,Nat.testBit_or,Bool.or_eq_true,Bool.or_eq_true] at h
   have hon:=he e (List.mem_cons_self) hb
   rcases h with(h|h)|h
   ·
    rw [Nat.testBit_two_pow] at h
    have:e.on=i:=by simpa using h
    rw [← this];exact hon
   ·
    cases hg:acc[e.on]? with
    | none=>simp [List.getD,hg] at h
    | some M =>
     have hM:acc.getD e.on 0=M:=by simp [List.getD,hg]
     rw [hM] at h
     exact hacc e.on M hg listed hc (fun oj hoj e' he' hb'=>hc e.on oj hoj hon e' he' hb') i h
   ·
    exact ih h
  ·
   have hm:maskOf acc (e :: es)=maskOf acc es:=by simp [maskOf,hb]
   rw [hm] at h
   exact ih h

theorem masksOf_ok{ops:Array Oper}:∀(l:List Oper) (acc:List Nat),(∀ j,l[j]? = ops[acc.length+j]?)→MasksOk ops acc→MasksOk ops (masksOf l acc)
 | [],acc,_,h=>h
 | o :: l,acc,hl,h=>by
  have h0:ops[acc.length]? = some o:=by simpa using (hl 0).symm
  refine masksOf_ok l _ (fun j => ?_) ?_
  ·
   have:=hl (j+1)
   rw [List.length_append,List.length_singleton,Nat.add_assoc,Nat.add_comm 1 j]
   simpa using this
  ·
   intro j M hj listed hc hp i hi
   rw [List.getElem?_append] at hj
   split at hj
   ·
    exact h j M hj listed hc hp i hi
   ·
    rename_i hlt
    have hje:j=acc.length:=by
     rcases Nat.lt_or_ge (j - acc.length) 1 with h1|h1
     ·
      omega
     ·
      rw [List.getElem?_eq_none (by simpa using h1)] at hj;cases hj
    subst hje
    simp only [Nat.sub_self,List.getElem?_cons_zero,Option.some.injEq] at hj
    subst hj
    exact maskOf_ok h (Nat.le_of_lt (Array.getElem?_eq_some_iff.1 h0).1) hc o.after.toList (fun e he hb=>hp o h0 e (by simpa using he) hb) i hi

def loudPairsB(ops:Array Oper)(loud:Nat→Bool):Bool:=
 let m:=masksOf ops.toList []
 let ls:=(List.range ops.size).filter loud
 ls.all fun j=>ls.all fun i => !decide (i<j) || (m.getD j 0).testBit i

theorem loudPairs_ok{ops:Array Oper}(h:loudPairsB ops loud=true){listed:Array Bool}(hc:ClosedL ops listed){i j:Nat}
  (hi:i∈Region.ready .any ops listed) (hj:j∈Region.ready .any ops listed) (hli:loud i=true) (hlj:loud j=true):i=j:=by
 have key:∀ i j:Nat,i∈Region.ready .any ops listed→j∈Region.ready .any ops listed→loud i=true→loud j=true→i<j→False:=by
  intro i j hi hj hli hlj hlt
  obtain⟨hun,oi,hoi,_⟩:=mem_ready.1 hi
  obtain⟨_,oj,hoj,hall⟩:=mem_ready.1 hj
  have hsi:=(Array.getElem?_eq_some_iff.1 hoi).1
  have hsj:=(Array.getElem?_eq_some_iff.1 hoj).1
  simp only [loudPairsB,List.all_eq_true,List.mem_filter,List.mem_range,Bool.or_eq_true,Bool.not_eq_true',decide_eq_false_iff_not] at h
  have h1:=(h j ⟨hsj,hlj⟩ i ⟨hsi,hli⟩).resolve_left (by omega)
  have hok:=masksOf_ok (ops:=ops) ops.toList [] (by simp) (by intro j M hj;simp at hj)
  cases hg:(masksOf ops.toList [])[j]? with
  | none=>simp [List.getD,hg] at h1
  | some M =>
   have hM:(masksOf ops.toList []).getD j 0=M:=by simp [List.getD,hg]
   rw [hM] at h1
   have:=hok j M hg listed hc (fun oj' hoj' e he hb=>by
    have:oj'=oj:=Option.some.inj (hoj'.symm.trans hoj)
    subst this
    exact hall e he hb) i h1
   rw [getD_both hun] at this
   cases this
 rcases Nat.lt_trichotomy i j with h1|h1|h1
 ·
  exact(key i j hi hj hli hlj h1).elim
 ·
  exact h1
 ·
  exact(key j i hj hi hlj hli h1).elim

def wpAnyX(P:Program)(ops:Array Oper)(C:World→Prop)(loud:Nat→Bool)(n:Nat)(L:Array Bool→Act→World→Prop):Nat→Array Bool→Act→World→Prop
 | 0,listed,a,w=>L listed a w
 | f+1,listed,a,w =>
  Region.ready .any ops listed≠[]∧∀ i∈Region.ready .any ops listed,i<n∧xOp P ops C loud i (wpAnyX P ops C loud n L f (listed.setIfInBounds i true)) a w

theorem wpOp_of_xOp{i:Nat}{a:Act}{w:World}{K K':Act→World→Prop}{Q':Exit→Act→World→Prop}(hC:C w)(hcalm:∀ o,ops[i]? = some o→loud i=false→calmOp o.op=true)
  (h:∀ a w,C w→K a w→K' a w) (hh:xOp P ops C loud i K a w):wpOp P ops Q' i K' a w:=by
 unfold xOp at hh
 unfold wpOp
 split
 ·
  simp only [*] at hh;exact h _ _ hC hh
 ·
  rename_i o ho
  simp only [ho] at hh
  split
  ·
   rename_i hw
   simp only [hw,if_true] at hh
   refine .inl ?_
   split at hh
   ·
    exact wp_noWay (fun a' w' hk=>h _ _ hk.1 hk.2) hh
   ·
    rename_i hl
    have hco:=hcalm o ho (by simpa using hl)
    obtain⟨v,h1,h2⟩:=hh
    have h3:=h1 w hC
    have hne:=fun f args w'=>calm_noEnter (P:=P) (ρ:=a.eval) (w:=w) (w':=w') (f:=f) (args:=args) hco
    unfold Oper.quietAt at h3
    unfold Oper.wp
    generalize (execOp a.eval o).run P w=r at *
    cases r with
    | ok n w' =>
     cases n <;> simp only [Oper.quietUpon] at h3 <;> simp only [Oper.upon]
     case value u =>
      obtain⟨e1,e2⟩:=h3
      rw [e1,e2]
      exact h _ _ hC h2
     case skip =>
      obtain⟨e1,e2⟩:=h3
      rw [e1,← e2]
      exact h _ _ hC h2
     case enter f args=>exact absurd rfl (hne f args w')
    | halt x w'=>simp only [Oper.quietUpon] at h3
  ·
   rename_i hw;simp only [hw] at hh;exact h _ _ hC hh

theorem wpAny_of_headX{n g:Nat}{L:Array Bool→Act→World→Prop}{Q':Exit→Act→World→Prop}(hcalm:∀ i o,ops[i]? = some o→loud i=false→calmOp o.op=true)
  (hL:∀ listed a w,L listed a w→wpAny P .any ops Q' g listed a w) :
  ∀(f:Nat) (listed:Array Bool) (a:Act) (w:World),C w→wpAnyX P ops C loud n L f listed a w→wpAny P .any ops Q' (f+g) listed a w
 | 0,listed,a,w,_,h=>by rw [Nat.zero_add];exact hL _ _ _ h
 | f+1,listed,a,w,hC,h=>by
  rw [show f+1+g=(f+g)+1 by omega]
  exact⟨fun h0=>absurd h0 h.1,fun i hi=>wpOp_of_xOp hC (hcalm i) (fun a' w' hC' h'=>wpAny_of_headX hcalm hL f _ a' w' hC' h') (h.2 i hi).2⟩

theorem wpAnyX_first{n i:Nat}{oi:Oper}{L:Array Bool→Act→World→Prop}(hi:ops[i]? = some oi)(hsel:∀(j:Nat) (o:Oper) cs b,ops[j]? = some o→o.op≠.select cs b)
  (hcalm:∀ i o,ops[i]? = some o→loud i=false→calmOp o.op=true) (hpairs:loudPairsB ops loud=true)
  (htail:n=ops.size∨(Region.sinkB .any ops n=true∧Region.chainB .any ops n=true∧n<ops.size)) (hin:i<n)
  (hdone:∀ listed a w,L listed a w→∀ j∈Region.ready .any ops listed,n≤j) :
  ∀(f:Nat) (listed:Array Bool) (a:Act) (w:World),C w→HeadInv .any ops n listed →
   (∀ j oj,ops[j]? = some oj→j≠i→listed.getD j true=false→(∀ e∈oj.after,Region.binds .any e=true→e.on≠i)→oi.apart ops oj=true) →
   i∈Region.ready .any ops listed →
   xOp P ops C loud i (wpAnyX P ops C loud n L f (listed.setIfInBounds i true)) a w→wpAnyX P ops C loud n L (f+1) listed a w:=by
 intro f
 induction f with
 | zero =>
  intro listed a w hC inv _ hr H
  have hun:=(mem_ready.1 hr).1
  refine⟨fun h=>(by rw [h] at hr;cases hr),fun j hj => ?_⟩
  have hjn:j<n:=by
   obtain⟨_,oj,hoj,_⟩:=mem_ready.1 hj
   have hjs:=(Array.getElem?_eq_some_iff.1 hoj).1
   rcases Nat.lt_or_ge j n with h|h
   ·
    exact h
   ·
    rcases htail with ht|⟨hs,hc,hn⟩
    ·
     omega
    ·
     exact absurd hj (tail_waits hs hc hn inv _ i rfl hin hun j h)
  refine⟨hjn,?_⟩
  by_cases hji:j=i
  ·
   subst hji;exact H
  ·
   have:n≤j:=xOp_some hC H fun a' w' _ hk=>hdone _ a' w' hk j (ready_mono hj hji)
   omega
 | succ f ih =>
  intro listed a w hC inv hfree hr H
  have hun:=(mem_ready.1 hr).1
  refine⟨fun h=>(by rw [h] at hr;cases hr),fun j hj => ?_⟩
  have hjn:j<n:=by
   obtain⟨_,oj,hoj,_⟩:=mem_ready.1 hj
   have hjs:=(Array.getElem?_eq_some_iff.1 hoj).1
   rcases Nat.lt_or_ge j n with h|h
   ·
    exact h
   ·
    rcases htail with ht|⟨hs,hc,hn⟩
    ·
     omega
    ·
     exact absurd hj (tail_waits hs hc hn inv _ i rfl hin hun j h)
  refine⟨hjn,?_⟩
  by_cases hji:j=i
  ·
   subst hji;exact H
  ·
   obtain⟨hjun,oj,hoj,hall⟩:=mem_ready.1 hj
   have hnot:∀ e∈oj.after,Region.binds .any e=true→e.on≠i:=fun e he hb heq=>by
    have h1:=hall e he hb
    rw [heq,getD_both hun] at h1
    cases h1
   have hno:loud i=true→loud j=true→False:=fun h1 h2=>hji (loudPairs_ok hpairs (fun j oj hj hl e he hb=>inv.closed j oj hj hl e he hb) hj hr h2 h1)
   have H':xOp P ops C loud i (fun a' w'=>xOp P ops C loud j (wpAnyX P ops C loud n L f ((listed.setIfInBounds i true).setIfInBounds j true)) a' w') a w:=
    xOp_mono hC (fun a' w' _ hk=>(hk.2 j (ready_mono hj hji)).2) H
   have h2:=xOp_comm hi hoj (hfree j oj hoj hji hjun hnot) (fun cs b=>hsel i oi cs b hi) (fun cs b=>hsel j oj cs b hoj) (hcalm j oj hoj) hno hC H'
   have hfree':∀ k ok,ops[k]? = some ok→k≠i→(listed.setIfInBounds j true).getD k true=false →
     (∀ e∈ok.after,Region.binds .any e=true→e.on≠i)→oi.apart ops ok=true:=fun k ok hk hki hun hno=>by
    refine hfree k ok hk hki ?_ hno
    by_cases hjk:j=k
    ·
     subst hjk;exact hjun
    ·
     rw [getD_set_ne true hjk] at hun;exact hun
   refine xOp_mono hC (fun a' w' hC' h3=>ih (listed.setIfInBounds j true) a' w' hC' (inv.set hj hjn) hfree' (ready_mono hr (Ne.symm hji)) ?_) h2
   rw [Array.setIfInBounds_comm _ _ hji]
   exact h3

/-- THE WALK IN THE ORDER OF THE TEXT -/
def wpLex(P:Program)(ops:Array Oper)(C:World→Prop)(loud:Nat→Bool)(Q:Act→World→Prop):Nat→List Oper→Act→World→Prop
 | _,[],a,w=>Q a w
 | k,o :: l,a,w =>
  if Region.wanted o (yielded ops a.tmps) then
   if loud k then o.wp P a w (fun a' w'=>C w'∧wpLex P ops C loud Q (k+1) l a' w') NoWay else o.quiet P a C (fun a'=>wpLex P ops C loud Q (k+1) l a' w)
  else wpLex P ops C loud Q (k+1) l (a.put o.dst undef) w

theorem wpAnyX_lex{n g:Nat}{Lq:Act→World→Prop}(hsel:Region.noSelect ops=true)(hcalm:∀ i o,ops[i]? = some o→loud i=false→calmOp o.op=true)(hpairs:loudPairsB ops loud=true)
  (htail:n=ops.size∨(Region.sinkB .any ops n=true∧Region.chainB .any ops n=true∧n<ops.size)) :
  ∀(l:List Oper) (k:Nat) (listed:Array Bool) (a:Act) (w:World),C w→(∀ j,j<l.length→l[j]? = ops[k+j]?)→k+l.length=n→HeadInv .any ops n listed →
  Region.lexHead .any ops g l.length k listed=true→wpLex P ops C loud Lq k l a w →
  wpAnyX P ops C loud n (fun listed' a' w'=>Region.seqB .any ops g n listed'=true∧Lq a' w') l.length listed a w
 | [],k,listed,a,w,_,_,hk,_,hB,h=>by
  have:k=n:=by simpa using hk
  subst this
  exact⟨by simpa [Region.lexHead] using hB,h⟩
 | o :: l,k,listed,a,w,hC,hl,hk,inv,hB,h=>by
  have h0:ops[k]? = some o:=by simpa using (hl 0 (by simp)).symm
  simp only [List.length_cons,Region.lexHead,Bool.and_eq_true] at hB
  obtain⟨⟨hr,hf⟩,hB'⟩:=hB
  have hkn:k<n:=by simp only [List.length_cons] at hk;omega
  have hr':k∈Region.ready .any ops listed:=by simpa using hr
  refine wpAnyX_first h0 (Region.noSelect_spec hsel) hcalm hpairs htail hkn (fun listed' a' w' hL=>seqB_ready hL.1) l.length listed a w hC inv (Region.free_spec h0 hf) hr' ?_
  have hx:xOp P ops C loud k (wpLex P ops C loud Lq (k+1) l) a w:=by unfold xOp;simp only [h0];exact h
  exact xOp_mono hC (fun a' w' hC' hk'=>wpAnyX_lex hsel hcalm hpairs htail l (k+1) _ a' w' hC'
   (fun j hj=>by have:=hl (j+1) (by simp;omega);simpa [Nat.add_assoc,Nat.add_comm 1 j] using this) (by simp only [List.length_cons] at hk;omega) (inv.set hr' hkn) hB' hk') hx

/-- loud: whatever is no calm kind, and what is named besides -/
def loudAt(ops:List Oper)(xs:List Nat)(k:Nat):Bool:=
 match ops[k]? with
 | some o => !calmOp o.op || xs.contains k
 | none=>false
def lexXB(l:List Oper)(n:Nat)(xs:List Nat):Bool:=
 Region.noSelect l.toArray && loudPairsB l.toArray (loudAt l xs) && (n == l.length || (decide (n<l.length) && Region.sinkB .any l.toArray n && Region.chainB .any l.toArray n)) &&
  Region.lexHead .any l.toArray (l.length - n) n 0 (Array.replicate l.length false)

theorem loudAt_calm{l:List Oper}{xs:List Nat}{i:Nat}{o:Oper}(hi:l.toArray[i]? = some o)(h:loudAt l xs i=false):calmOp o.op=true:=by
 have:l[i]? = some o:=by simpa using hi
 simp only [loudAt,this,Bool.or_eq_false_iff,Bool.not_eq_false'] at h
 exact h.1

theorem wp_region_lex{id:Nat}{Q:Exit→Act→World→Prop}{a:Act}{w:World}{l:List Oper}(n:Nat)(xs:List Nat)(hm:P.follows .mixedOrders=true)(hB:lexXB l n xs=true)
  (hC:C w.drew) (h:wpLex P l.toArray C (loudAt l xs) (fun a' w'=>wpList P l.toArray Q (l.drop n) a' w') 0 (l.take n) a w.drew):(Code.region id l.toArray true).wp P Q a w:=by
 simp only [lexXB,Bool.and_eq_true,Bool.or_eq_true,beq_iff_eq,decide_eq_true_eq] at hB
 obtain⟨⟨⟨hsel,hpairs⟩,ht⟩,hlex⟩:=hB
 have hn:n≤l.length:=by rcases ht with h|h <;> omega
 have htl:(l.take n).length=n:=by simp;omega
 have hdl:(l.drop n).length=l.length - n:=by simp
 have htail:n=l.toArray.size∨(Region.sinkB .any l.toArray n=true∧Region.chainB .any l.toArray n=true∧n<l.toArray.size):=by
  rcases ht with h|h
  ·
   exact .inl (by simpa using h)
  ·
   exact .inr ⟨h.1.2,h.2,by simpa using h.1.1⟩
 have inv0:HeadInv .any l.toArray n (Array.replicate l.length false):=
  ⟨by simp,fun j oj _ hl=>(by rw [getD_replicate_false] at hl;cases hl),fun t _ ht=>getD_in (by simpa using ht) (getD_replicate_false _ _)⟩
 have H:=wpAnyX_lex (C:=C) (loud:=loudAt l xs) (g:=l.length - n) hsel (fun i o hi hl=>loudAt_calm hi hl) hpairs htail (l.take n) 0 _ a w.drew hC (fun j hj=>by
  have hj':j<n:=by rw [htl] at hj;exact hj
  simp [hj']) (by simpa using htl) inv0 (by rw [htl];exact hlex) h
 refine wp_region_any hm ?_
 have:=wpAny_of_headX (Q':=Q) (g:=l.length - n) (fun i o hi hl=>loudAt_calm hi hl) (fun listed a' w' hL=>by
  have:=wpAny_of_seq (md:=.any) (Q':=Q) (l.drop n) n listed a' w' (fun j=>by simp [List.getElem?_drop]) (by rw [hdl];exact hL.1) hL.2
  rwa [hdl] at this) _ _ _ _ hC H
 rw [htl,show n+(l.length - n)=l.length by omega] at this
 simpa using this

/-! ### steps -/
theorem lex_end{Q:Act→World→Prop}{k:Nat}{a:Act}{w:World}(h:Q a w):wpLex P ops C loud Q k [] a w:=h

theorem lex_calm{Q:Act→World→Prop}:∀(m:Nat) {k:Nat} {l:List Oper} {a:Act} {w:World},((List.range m).all fun i => !loud (k+i))=true →
  wpQuiet P ops C (fun a'=>wpLex P ops C loud Q (k+m) (l.drop m) a' w) (l.take m) a→wpLex P ops C loud Q k l a w
 | 0,k,l,a,w,_,h=>by simpa [wpQuiet] using h
 | m+1,k,[],a,w,_,h=>by
  have:wpLex P ops C loud Q (k+(m+1)) [] a w:=by simpa [wpQuiet] using h
  exact this
 | m+1,k,o :: l,a,w,hq,h=>by
  have hk:loud k=false:=by
   have:=List.all_eq_true.1 hq 0 (by simp)
   simpa using this
  have hq':((List.range m).all fun i => !loud (k+1+i))=true:=by
   rw [List.all_eq_true]
   intro i hi
   have:=List.all_eq_true.1 hq (i+1) (by simp at hi ⊢;omega)
   rwa [show k+1+i=k+(i+1) by omega]
  have hn:∀ a',wpQuiet P ops C (fun a'=>wpLex P ops C loud Q (k+(m+1)) (l.drop m) a' w) (l.take m) a'→wpLex P ops C loud Q (k+1) l a' w:=fun a' h' =>
   lex_calm m hq' (by rw [show k+1+m=k+(m+1) by omega];exact h')
  simp only [List.take_succ_cons,List.drop_succ_cons,wpQuiet] at h
  unfold wpLex
  split
  ·
   rename_i hw
   simp only [hw,if_true] at h
   simp only [hk]
   exact Oper.quiet_mono hn h
  ·
   rename_i hw
   simp only [hw] at h
   exact hn _ h

theorem lex_one{Q:Act→World→Prop}{k:Nat}{o:Oper}{l:List Oper}{a:Act}{w:World}(hl:loud k=false)
  (h:wpQuiet P ops C (fun a'=>wpLex P ops C loud Q (k+1) l a' w) [o] a):wpLex P ops C loud Q k (o :: l) a w:=
 lex_calm 1 (by simpa using hl) (by simpa using h)

theorem lex_loud{Q:Act→World→Prop}{k:Nat}{o:Oper}{l:List Oper}{a:Act}{w:World}(hl:loud k=true)
  (h:wpList P ops (fun e a' w'=>e=.normal∧C w'∧wpLex P ops C loud Q (k+1) l a' w') [o] a w):wpLex P ops C loud Q k (o :: l) a w:=by
 have hnil:∀ a' w',wpList P ops (fun e a' w'=>e=.normal∧C w'∧wpLex P ops C loud Q (k+1) l a' w') [] a' w'→C w'∧wpLex P ops C loud Q (k+1) l a' w':=fun a' w' h=>h.2
 rw [wpLex]
 rw [wpList] at h
 by_cases hw:Region.wanted o (yielded ops a.tmps)=true
 ·
  rw [if_pos hw] at h ⊢
  rw [if_pos hl]
  rcases h with h|⟨_,a',w',h⟩
  ·
   have h':=Oper.wp_mono (K':=fun a' w'=>C w'∧wpLex P ops C loud Q (k+1) l a' w') hnil h
   unfold Oper.wp at *
   generalize (execOp a.eval o).run P w=r at *
   cases r with
   | ok n w' =>
    cases n <;> simp only [Oper.upon] at h' ⊢ <;>
     first
      | exact h'
      | exact Calls.mono h' (fun e w'' he=>by
        cases e with
        | returned v=>exact he
        | panicked c=>exact absurd he.1 (by simp)
        | outgrown=>obtain⟨_,_,he,_⟩:=he;exact absurd he (by simp))
   | halt x w' =>
    cases x <;> simp only [Oper.upon] at h' ⊢
    exact absurd h'.1 (by simp)
  ·
   exact absurd h.1 (by simp)
 ·
  rw [if_neg hw] at h ⊢
  exact(hnil _ _ h).2

/-! ### the class: what lies over a world -/
/-- the worlds in which nothing old has turned -/
def Over(w:World):Type:={w':World // Below w.heap.size w w'}
instance (w:World):Nonempty (Over w):=⟨⟨w,Below.refl _ _⟩⟩
def IsOver(w:World):World→Prop:=fun w'=>∃ x:Over w,w'=x.1
theorem isOver_of{w w':World}(h:Below w.heap.size w w'):IsOver w w':=⟨⟨w',h⟩,rfl⟩
theorem isOver_below{w w':World}(h:IsOver w w'):Below w.heap.size w w':=by obtain⟨x,rfl⟩:=h;exact x.2
@[go_sem] theorem isOver_all {w:World} {p:World→Prop}:(∀ w',IsOver w w'→p w')↔∀ x:Over w,p x.1:=⟨fun h x=>h _ ⟨x,rfl⟩,fun h w' ⟨x,hx⟩=>hx▸h x⟩
@[simp,go_sem] theorem heap_drew' (w:World):w.drew.heap=w.heap:=rfl
@[simp,go_sem] theorem heap_drewN' (w:World) (n:Nat):(w.drewN n).heap=w.heap:=rfl
@[simp,go_sem] theorem over_cell {w:World} (x:Over w) {a:Addr} (h:a.block<w.heap.size):World.cell? x.1 a=w.cell? a:=x.2.cell h
@[simp,go_sem] theorem over_frozen {w:World} (x:Over w) {a:Addr} (h:a.block<w.heap.size):World.frozen? x.1 a=w.frozen? a:=x.2.frozen h
attribute [irreducible] wpLex
end
end Go.Proofs.YtanfebljiblhbaaGreatDoor
