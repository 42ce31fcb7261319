/- What is proved: PlanTwo, for every input; of the listed tables the walk needs the powers of ten. -/
import Derived.Test.YtjccmcgglfncdaaGreatDoorTPgC
set_option linter.unusedVariables false
set_option linter.unusedSimpArgs false
namespace Go.Proofs.YtjccmcgglfncdaaGreatDoor
open Go Go.RowKit
end Go.Proofs.YtjccmcgglfncdaaGreatDoor
namespace Go.Proofs.YtjccmcgglfncdaaGreatDoor
open Go
noncomputable def fileT(L:List PatchM)(n:NameM):FileM:=⟨n.name,n.also.map fun t=>⟨t.toArray⟩,lnSeen (linesM L n.file) (relM L n.file)⟩
noncomputable def oddN(L:List PatchM)(n:NameM):Nat:=lnOdd (linesM L n.file) (relM L n.file)
noncomputable def cleanM(L:List PatchM):Bool:=(allM L).all fun n=>decide (oddN L n=0) && decide (n.flaws=[])
section
variable {L : List PatchM}
theorem tilde_bad{t:ByteArray}{f:VidM}:nameOk (t++(tilde++textB f))=false:=by
 cases h:nameOk (t++(tilde++textB f)) with
 | false=>rfl
 | true=>exact absurd rfl (bc_ne (t:=t++(tilde++textB f)) (u:=t) (f:=f) h)
theorem tilde_bad0{f:VidM}:nameOk (tilde++textB f)=false:=by
 cases h:nameOk (tilde++textB f) with
 | false=>rfl
 | true=>exact absurd rfl (ab_ne (t:=tilde++textB f) (f:=f) h)
theorem name_clean(hw:WfG L)(c:ByteArray→Nat)(f:VidM)(l:List VertM)(hl:∀ x∈l,nameOk x.text=true):decide ((nameOne L c f l).flaws=[])=(nameOk (nameOne L c f l).name && decide ((nameOne L c f l).also.length=0)):=by
 cases l with
 | nil =>show decide (([3]:List UInt8)=[])=(nameOk (tilde++textB f) && decide (([]:List (List UInt8)).length=0));rw [tilde_bad0];rfl
 | cons x l =>
  have hx:=hl x (List.mem_cons_self ..);show decide (((if(alsoM (x :: l) x.text).length=0 then [] else [2])++(if 1<c x.text+1 then [4] else []):List UInt8)=[])=(nameOk (if 1<c x.text+1 then x.text++(tilde++textB f) else x.text) && decide ((alsoM (x :: l) x.text).length=0))
  by_cases h1:1<c x.text+1
  ·
   rw [if_pos h1,if_pos h1,tilde_bad]
   by_cases h2:(alsoM (x :: l) x.text).length=0
   · rw [if_pos h2];rfl
   · rw [if_neg h2];rfl
  ·
   rw [if_neg h1,if_neg h1,hx]
   by_cases h2:(alsoM (x :: l) x.text).length=0
   · rw [if_pos h2];simp [h2]
   · rw [if_neg h2];simp [h2]
theorem all_one(k:Nat):∀ n∈(allTo L k).1,∃ c f,n=nameOne L c f (namesM L f):=by
 induction k with
 | zero=>intro n hn;rw [allTo_zero] at hn;exact absurd hn List.not_mem_nil
 | succ k ih =>
  intro n hn;cases hf:(filesM L)[k]? with
  | none =>
   have h1:allTo L (k+1)=allTo L k:=by
    have hk:(filesM L).length≤k:=by
     rcases Nat.lt_or_ge k (filesM L).length with q|q
     · rw [List.getElem?_eq_getElem q] at hf;cases hf
     · exact q
    unfold allTo;rw [List.take_of_length_le (by omega),List.take_of_length_le hk]
   rw [h1] at hn;exact ih n hn
  | some f =>
   rw [allTo_succ hf] at hn;unfold stepN at hn;split at hn
   · exact ih n hn
   ·
    rcases List.mem_append.1 hn with hn|hn
    · exact ih n hn
    · exact⟨_,f,List.mem_singleton.1 hn⟩
theorem all_names:∀ n∈allM L,∃ c f,n=nameOne L c f (namesM L f):=all_one _
end
end Go.Proofs.YtjccmcgglfncdaaGreatDoor
