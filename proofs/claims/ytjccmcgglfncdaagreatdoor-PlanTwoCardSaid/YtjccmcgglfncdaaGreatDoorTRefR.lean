/- What is proved: PlanTwo, for every input; of the listed tables the walk needs the powers of ten. -/
import Derived.Test.YtjccmcgglfncdaaGreatDoorTEdV
set_option linter.unusedVariables false
set_option linter.unusedSimpArgs false
namespace Go.Proofs.YtjccmcgglfncdaaGreatDoor
open Go Go.RowKit
section
attribute [local irreducible] orderM keptI aliveQL deadQL aliveX aliB firmB
end
section
attribute [local irreducible] edgesM vertM optV fileAt
end
section
attribute [local irreducible] placeM linesM relM stepsM edgesM
end
def markV(ms:List Bool):List Value:=ms.map .bool
noncomputable def ftx(l:List VertM)(R:List (Nat × Nat))(k:Nat):List ByteArray:=(firmTo l R k).map (textAt l)
section
attribute [local irreducible] keptV1 markV minus keptTo textAt firmX aliveX firmTo ftx firmB killsE addsTo tiesTo
end
section
attribute [local irreducible] goodP hasM nextM vecM checkM refMet vertM isKind optV
end
def apX(xs:List LaidP)(x:LaidP):List LaidP:=if checkM (patsOf xs) x.p=0 then xs++[x] else xs
theorem apX_of(xs:List LaidP)(x:LaidP):patsOf (apX xs x)=applyM (patsOf xs) x.p:=by
 unfold apX applyM;split
 · unfold patsOf;rw [List.map_append];rfl
 rfl
attribute [local irreducible] checkM apX goodP hasM vecM
def modX(xs:List LaidP):List LaidP:=xs.foldl apX []
theorem modX_mem:∀(xs out:List LaidP) (y:LaidP),y∈xs.foldl apX out→y∈out∨y∈xs
 | [],out,y,h=>.inl h
 | x :: xs,out,y,h=>by
  rcases modX_mem xs (apX out x) y h with h1|h1
  ·
   unfold apX at h1;split at h1
   ·
    rcases List.mem_append.1 h1 with h2|h2
    · exact .inl h2
    exact .inr (by rw [List.mem_singleton.1 h2];exact List.mem_cons_self ..)
   exact .inl h1
  exact .inr (List.mem_cons_of_mem _ h1)
theorem modX_len:∀(xs out:List LaidP),(xs.foldl apX out).length≤out.length+xs.length
 | [],out=>by simp
 | x :: xs,out=>by
  have h1:=modX_len xs (apX out x);have h2:(apX out x).length≤out.length+1:=by unfold apX;split <;> simp
  rw [List.foldl_cons,List.length_cons];omega
theorem modX_pats(xs:List LaidP):patsOf (modX xs)=buildM (patsOf xs):=by
 have:∀(xs out:List LaidP),patsOf (xs.foldl apX out)=(patsOf xs).foldl applyM (patsOf out):=by
  intro xs;induction xs with
  | nil=>intro out;rfl
  | cons x xs ih=>intro out;rw [List.foldl_cons,ih,apX_of];rfl
 exact this xs []
attribute [local irreducible] modX
end Go.Proofs.YtjccmcgglfncdaaGreatDoor
