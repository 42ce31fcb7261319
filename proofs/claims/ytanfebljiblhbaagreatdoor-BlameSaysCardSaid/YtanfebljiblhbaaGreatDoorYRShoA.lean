/- Part of the proof that of any graph each file's lines, whose they are, and how many lines any author has, are as the document says. No conditions. -/
import Derived.Test.YtanfebljiblhbaaGreatDoorYBlmP
set_option linter.unusedVariables false
set_option linter.unusedSimpArgs false
namespace Go.Proofs.YtanfebljiblhbaaGreatDoor
open Go Go.RowKit
theorem blk_one{w:World}{b off cap j:Nat}{xs:List BlL}{x:BlL}(h:GRow encBl 3 w (.slice (some ⟨b,off,none⟩) xs.length cap) xs)(hx:xs[j]? = some x):GRow encBl 3 w (.slice (some ⟨b,off+j*3,none⟩) 1 (cap - j)) [x]:=by
 obtain⟨a2,c2,e,z1,z2,hc⟩:=h.at encBl_len;obtain⟨rfl,_,rfl⟩:=Value.slice.inj e;have hj:=(List.getElem?_eq_some_iff.1 hx).1;obtain⟨b3,off3,e3,hlt,hcb⟩:=hc.resolve_left (by omega);obtain⟨rfl,rfl,_⟩:=Addr.mk.inj (Option.some.inj e3);refine⟨by simp [encBl_len],_,_,rfl,by show 1≤_;omega,by omega,?_,fun _=>⟨b,off+j*3,rfl,hlt,fun q u hu => ?_⟩⟩
 · intro h0;cases h0
 rw [List.flatMap_cons,List.flatMap_nil,List.append_nil] at hu;exact(hcb j x hx w (Below.refl _ _)).2 q u hu
attribute [local irreducible] seenJoin seenAll seenOne bareL bareB
end Go.Proofs.YtanfebljiblhbaaGreatDoor
