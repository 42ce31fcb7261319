/- Part of the proof that of any graph each file's lines, whose they are, and how many lines any author has, are as the document says. No conditions. -/
import Derived.Test.YtanfebljiblhbaaGreatDoorYRnB
import Derived.Test.YtanfebljiblhbaaGreatDoorYRShoA
import Derived.Test.YtanfebljiblhbaaGreatDoorYNsD
set_option linter.unusedVariables false
set_option linter.unusedSimpArgs false
namespace Go.Proofs.YtanfebljiblhbaaGreatDoor
open Go Go.RowKit
section
attribute [local irreducible] allM fileT idsM linesM relM edgesM
end
section
attribute [local irreducible] lnSeen lnOdd aliveX seenAll oddL blkM bareL
end
theorem rname_at{w:World}{B:Nat}{v:Value}{ns:List NameM}(h:RNames w B v ns):∃(xs:List LaidN) (a:Option Addr) (cap:Nat),xs.map (·.n)=ns∧v=.slice a ns.length cap∧ns.length≤cap∧cap≤maxLen∧(∀ x∈xs,NameAt w B x)∧(ns.length=0∨∃ b off,a=some ⟨b,off,none⟩∧b<w.heap.size ∧
  ∀ i x,xs[i]? = some x→∀ W,Be w W→b<W.heap.size∧∀ j u,(encN x)[j]? = some u→W.cell? ⟨b,off+i*6+j,none⟩=some u):=by obtain⟨xs,rfl,h2,h3⟩:=h;obtain⟨a,cap,e1,e2,e3,e4⟩:=h2.row.at encN_len;rw [List.length_map];exact⟨xs,a,cap,rfl,e1,e2,e3,h3,e4⟩
attribute [local irreducible] allM fileT idsM linesM relM edgesM
end Go.Proofs.YtanfebljiblhbaaGreatDoor
