/- What is proved: PlanGives and MergeKeeps, for every input; of the listed tables the walk needs the powers of ten. -/
import Derived.Test.YtjccmcgglfncdaaGreatDoorBEdV
set_option linter.unusedVariables false
set_option linter.unusedSimpArgs false
namespace Go.Proofs.YtjccmcgglfncdaaGreatDoor
open Go
theorem rcB_total{a b:ByteArray}(h:ltB a b=false)(h':a≠b):ltB b a=true:=by
 have h1:¬ a.toList<b.toList:=fun q=>by rw [rcB_iff.2 q] at h;cases h
 rw [rcB_iff];have h2:a.toList≠b.toList:=fun q=>h' (ba_list.1 q);rcases List.le_iff_lt_or_eq.1 (List.not_lt.1 h1) with q|q
 · exact q
 exact absurd q.symm h2
structure FlawM where
 kind:UInt8
 file:VidM
deriving DecidableEq
noncomputable def flawsN(L:List PatchM)(n:NameM):List FlawM:=(if 0<oddN L n then [⟨1,n.file⟩] else [])++n.flaws.map fun k=>⟨k,n.file⟩
noncomputable def flawsM(L:List PatchM):List FlawM:=(allM L).flatMap (flawsN L)
theorem flawsM_nil(L:List PatchM):decide (flawsM L=[])=cleanM L:=by
 unfold cleanM flawsM;rw [Bool.eq_iff_iff,decide_eq_true_eq,List.flatMap_eq_nil_iff,List.all_eq_true];refine forall_congr' fun n=>forall_congr' fun _ => ?_;unfold flawsN;rw [List.append_eq_nil_iff,List.map_eq_nil_iff,Bool.and_eq_true,decide_eq_true_eq,decide_eq_true_eq];refine and_congr ?_ Iff.rfl
 by_cases h:0<oddN L n
 · rw [if_pos h];exact⟨fun q=>(by cases q),fun q=>(by omega)⟩
 rw [if_neg h];exact⟨fun _=>(by omega),fun _=>rfl⟩
end Go.Proofs.YtjccmcgglfncdaaGreatDoor
