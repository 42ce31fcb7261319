/- What is proved: PlanTwo, for every input; of the listed tables the walk needs the powers of ten. -/
import Derived.Test.YtjccmcgglfncdaaGreatDoorTRefR
import Derived.Test.YtjccmcgglfncdaaGreatDoorTPlC
set_option linter.unusedVariables false
set_option linter.unusedSimpArgs false
namespace Go.Proofs.YtjccmcgglfncdaaGreatDoor
open Go
open Go.RowKit
variable{xs:List LaidP}
theorem modX_in{y:LaidP}(h:y∈modX xs):y∈xs:=(modX_mem xs [] y h).resolve_left (by simp)
theorem modX_few:(modX xs).length≤xs.length:=by unfold modX;have h3:=modX_len xs [];rw [List.length_nil] at h3;omega
theorem fewMod{m:Nat}(h:fewL m (xs.map (·.p))=true):(patsOf (modX xs)).length≤m∧∀ p∈patsOf (modX xs),p.ops.length≤60:=by have h1:=fewL_len h;rw [List.length_map] at h1;have h2:=modX_few (xs:=xs);refine⟨by show((modX xs).map (·.p)).length≤m;rw [List.length_map];omega,fun p hp => ?_⟩;obtain⟨y,hy,rfl⟩:=List.mem_map.1 hp;exact(fewL_ops h (List.mem_map.2 ⟨y,modX_in hy,rfl⟩)).1
end Go.Proofs.YtjccmcgglfncdaaGreatDoor
namespace Go.Proofs.YtjccmcgglfncdaaGreatDoor
open Go Go.RowKit
theorem next_good{L:List PatchM}{a:UInt8}(ha:authorOk a=true)(hv:vecM L a<60000):goodPid (nextM L a)=true∧(nextM L a).author=a∧nextM L a≠noPid:=by
 have e:nextM L a=⟨a,UInt16.ofNat (vecM L a+1)⟩:=by unfold nextM;rw [if_pos ⟨ha,hv⟩]
 unfold authorOk at ha;simp only [Bool.and_eq_true,decide_eq_true_eq] at ha;have h1:(UInt16.ofNat (vecM L a+1)).toNat=vecM L a+1:=by simp;omega
 rw [e];refine⟨?_,rfl,fun q => ?_⟩
 · unfold goodPid;simp only [Bool.and_eq_true,decide_eq_true_eq];rw [h1];omega
 have:=congrArg (fun p:PidM=>p.author.toNat) q;have:a.toNat=0:=this;omega
noncomputable def pgG(L:List PatchM)(t:List FileM)(a:UInt8):List PatchM:=L++[pgPat (nextM L a) (planM L t (nextM L a))]
section
variable {L : List PatchM} {t : List FileM} {a : UInt8}
theorem pl_in(hw:WfG L)(ht:treeGood t=true)(ha:authorOk a=true)(hv:vecM L a<60000)(hl:(planM L t (nextM L a)).length≤200):PlIn L t (nextM L a):=by obtain⟨h1,h2,_⟩:=next_good ha hv;exact⟨⟨hw,h1,by rw [h2],hl⟩,ht⟩
theorem pg_rec(hw:WfG L)(ht:treeGood t=true)(ha:authorOk a=true)(hv:vecM L a<60000) :
  ((planM L t (nextM L a)).length=0∧recI L t (nextM L a)=(none,6)∧IsTree L t∧cleanM L=true) ∨
  (200<(planM L t (nextM L a)).length∧recI L t (nextM L a)=(none,3)) ∨
  ((planM L t (nextM L a)).length≤200∧recI L t (nextM L a)=(some (pgPat (nextM L a) (planM L t (nextM L a))),0)∧CheckOk L (pgPat (nextM L a) (planM L t (nextM L a)))∧checkM L (pgPat (nextM L a) (planM L t (nextM L a)))=0∧WfG (pgG L t a)∧IsTree (pgG L t a) t∧cleanM (pgG L t a)=true∧∀ id',planM (pgG L t a) t id'=[]):=by
 have hno:=(next_good ha hv).2.2
 by_cases h0:(planM L t (nextM L a)).length=0
 · refine .inl ⟨h0,?_,plan_nil hw ht (List.length_eq_zero_iff.1 h0)⟩;unfold recI planR;rw [if_neg hno,if_pos ht,if_pos h0];rfl
 by_cases h1:200<(planM L t (nextM L a)).length
 · refine .inr (.inl ⟨h1,?_⟩);unfold recI planR;rw [if_neg hno,if_pos ht,if_neg h0,if_pos h1];rfl
 have hin:=pl_in hw ht ha hv (by omega);have hne:planM L t (nextM L a)≠[]:=fun e=>h0 (by rw [e];rfl);have hset:=hin.settles hne;have hw2:=hin.inn.wf2 hne;refine .inr (.inr ⟨by omega,?_,hin.inn.checkOk hne,hin.inn.check hne,hw2,(plan_nil hw2 ht (hset noPid)).1,(plan_nil hw2 ht (hset noPid)).2,hset⟩);have hg:goodQ (nextM L a) (depsM (nextM L a) (planM L t (nextM L a))) (planM L t (nextM L a))=true:=(goodQ_eq (pgPat (nextM L a) (planM L t (nextM L a)))).trans (hin.inn.goodP hne);unfold recI planR;rw [if_neg hno,if_pos ht,if_neg h0,if_neg h1,if_pos rfl];exact if_pos hg
end
end Go.Proofs.YtjccmcgglfncdaaGreatDoor
namespace Go.Proofs.YtjccmcgglfncdaaGreatDoor
open Go
section
open Go.RowKit
noncomputable def mgP(L:List PatchM)(t:List FileM)(a:UInt8):List PatchM:=(recI L t (nextM L a)).1.toList
noncomputable def mgC(L:List PatchM)(t:List FileM)(a:UInt8):Nat:=(recI L t (nextM L a)).2
end
section
open Go.RowKit
attribute [local irreducible] planM planR recI depsM idsM linesM edgesM vecM nextF
end
theorem rcB_total{a b:ByteArray}(h:ltB a b=false)(h':a≠b):ltB b a=true:=by
 have h1:¬ a.toList<b.toList:=fun q=>by rw [rcB_iff.2 q] at h;cases h
 rw [rcB_iff];have h2:a.toList≠b.toList:=fun q=>h' (ba_list.1 q);rcases List.le_iff_lt_or_eq.1 (List.not_lt.1 h1) with q|q
 · exact q
 exact absurd q.symm h2
structure FlawM where
 kind:UInt8
 file:VidM
deriving DecidableEq
noncomputable def flawsN(L:List PatchM)(n:NameM):List FlawM:=(if 0<oddN L n then [⟨1,n.file⟩] else [])++n.flaws.map fun k=>⟨k,n.file⟩
noncomputable def flawsM(L:List PatchM):List FlawM:=(allM L).flatMap (flawsN L)
theorem flawsM_nil(L:List PatchM):decide (flawsM L=[])=cleanM L:=by
 unfold cleanM flawsM;rw [Bool.eq_iff_iff,decide_eq_true_eq,List.flatMap_eq_nil_iff,List.all_eq_true];refine forall_congr' fun n=>forall_congr' fun _ => ?_;unfold flawsN;rw [List.append_eq_nil_iff,List.map_eq_nil_iff,Bool.and_eq_true,decide_eq_true_eq,decide_eq_true_eq];refine and_congr ?_ Iff.rfl
 by_cases h:0<oddN L n
 · rw [if_pos h];exact⟨fun q=>(by cases q),fun q=>(by omega)⟩
 rw [if_neg h];exact⟨fun _=>(by omega),fun _=>rfl⟩
end Go.Proofs.YtjccmcgglfncdaaGreatDoor
