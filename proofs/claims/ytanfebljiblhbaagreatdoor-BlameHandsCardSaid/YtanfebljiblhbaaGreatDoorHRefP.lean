/- Contract of ref20.Verts. Contract of ref20.Files. Contract of ref20.Of. Graphs that were built: each patch was its author's next one when it came (for ref20.Vec). Contract of ref20.Vec. What ref20.Check needs: append at one operation of a region that draws its order; an operation's conditions, one by one. -/
import Derived.Test.YtanfebljiblhbaaGreatDoorHRefF
import Derived.Deep.MidRow
set_option linter.unusedVariables false
set_option linter.unusedSimpArgs false
namespace Go.Proofs.YtanfebljiblhbaaGreatDoor
open Go Go.RowKit

attribute [local irreducible] idsM vertM optV
end Go.Proofs.YtanfebljiblhbaaGreatDoor
namespace Go.Proofs.YtanfebljiblhbaaGreatDoor
open Go Go.RowKit

attribute [local irreducible] idsM vertsM
end Go.Proofs.YtanfebljiblhbaaGreatDoor
namespace Go.Proofs.YtanfebljiblhbaaGreatDoor
open Go Go.RowKit

attribute [local irreducible] idsM vertsM
end Go.Proofs.YtanfebljiblhbaaGreatDoor
namespace Go.Proofs.YtanfebljiblhbaaGreatDoor
open Go Go.RowKit

end Go.Proofs.YtanfebljiblhbaaGreatDoor
namespace Go.Proofs.YtanfebljiblhbaaGreatDoor
open Go Go.RowKit

theorem Arr.range{w:World}{b:Nat}{cs:List Value}(h:Arr w b cs):w.rangeAt b 0 cs:=fun j v hv=>by rw [Nat.zero_add];exact h.cell hv
theorem Arr.there{w:World}{b:Nat}{cs:List Value}(h:Arr w b cs):w.there b 0 cs.length:=fun j hj=>by
 rw [Nat.zero_add]
 exact⟨by rw [h.cell (List.getElem?_eq_getElem hj)];rfl,h.free j⟩
attribute [local irreducible] vecL authorOk numM nextF vecM
end Go.Proofs.YtanfebljiblhbaaGreatDoor
namespace Go.Proofs.YtanfebljiblhbaaGreatDoor
open Go Go.RowKit

section
variable {P : Program} {t e : TypeId} {size bytes : Nat} {w : World} {o : Oper} {a : Act} {K : Act → World → Prop} {Q : Exit → Act → World → Prop}
end
theorem own_lit0(w:World)(e:TypeId)(sz B:Nat)(hB:B≤w.heap.size):(w.alloc (.cells #[] e)).ownsRow B e sz (.slice (some ⟨w.heap.size,0,none⟩) 0 0) 0 []:=
 World.ownsRow_lit w #[] 0 hB (Nat.zero_le _) (by simp)
theorem own_set{w:World}{B:Nat}{e:TypeId}{sz n:Nat}{v:Value}{xs:List Value}(h:w.ownsRow B e sz v n xs){k:Nat}(hk:v.ownBlock≠some k)(u:Value)(j:Nat):(w.setCell ⟨k,j,none⟩ u).ownsRow B e sz v n xs:=by
 obtain⟨h1,h2⟩:=h
 refine⟨h1,?_⟩
 rcases h2 with h2|⟨g,cap,cur,rfl,h3,hg,h4⟩
 ·
  exact .inl h2
 ·
  refine .inr ⟨g,cap,cur,rfl,h3,?_,h4⟩
  have hne:k≠g:=fun q=>hk (by rw [q];rfl)
  rw [← hg]
  unfold World.setCell
  split <;> simp [Array.getElem?_modify,hne]

/-! ### an operation's conditions -/
/-! ### the parts of Check -/
/-! ### new blocks behind a draw -/
end Go.Proofs.YtanfebljiblhbaaGreatDoor
