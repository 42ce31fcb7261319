/- The reference's sheets: contracts of ref21.place, Order, Alive, Firm. -/
import Derived.Test.YtllcipobiengiaaGreatXWk
set_option linter.unusedVariables false
set_option linter.unusedSimpArgs false
namespace Go.Proofs.YtllcipobiengiaaGreat
open Go Go.RowKit

/-! ### a sheet of the reference -/
structure RSh (w:World) (lv sv:Value) (l:List VertM) (R:List (Nat × Nat)):Prop where
 row:GRow encVert 9 w lv l
 rel:RRel w l.length sv R
theorem RSh.over{w w':World}{lv sv:Value}{l:List VertM}{R:List (Nat × Nat)}(h:RSh w lv sv l R)(hb:Below w.heap.size w w'):RSh w' lv sv l R:=⟨h.row.over hb,h.rel.over hb⟩
theorem RSh.form{w:World}{lv sv:Value}{l:List VertM}{R:List (Nat × Nat)}(h:RSh w lv sv l R):∃ lp lc sp sc,lv=.slice lp l.length lc∧sv=.slice sp R.length sc∧lc≤maxLen:=by
 obtain⟨a,cap,e1,_,h3,_⟩:=h.row.at encVert_len
 obtain⟨a2,cap2,e2,_⟩:=prow_at h.rel.row
 exact⟨a,cap,a2,cap2,e1,e2,h3⟩
attribute [local irreducible] orderM keptI aliveQL deadQL aliveX aliB firmB
end Go.Proofs.YtllcipobiengiaaGreat
