/- Contracts of law27.Ops, few. How much a few patches make: what EditKeeps wants, too. The reference's sheets: contracts of ref21.place, Order, Alive, Firm. -/
import Derived.Test.YtanfebljiblhbaaGreatDoorHBlmP
set_option linter.unusedVariables false
set_option linter.unusedSimpArgs false
namespace Go.Proofs.YtanfebljiblhbaaGreatDoor
open Go Go.RowKit

/-! ### few -/
end Go.Proofs.YtanfebljiblhbaaGreatDoor
namespace Go.Proofs.YtanfebljiblhbaaGreatDoor
open Go Go.RowKit

theorem putS_lenF{α:Type}{key:α→Nat}(x:α):∀ r:List α,(putS key x r).length≤r.length+1
 | []=>by simp [putS]
 | y :: r=>by
  have:=putS_lenF (key:=key) x r
  rw [putS]
  split
  ·
   simp
  ·
   split
   ·
    simp
   ·
    simp only [List.length_cons];omega
theorem setS_few{α:Type}{key:α→Nat}(l:List α):(setS key l).length≤l.length:=by
 have:∀(l out:List α),(l.foldl (fun out x=>putS key x out) out).length≤out.length+l.length:=by
  intro l
  induction l with
  | nil=>intro out;simp
  | cons x l ih =>
   intro out
   have h1:=ih (putS key x out)
   have h2:=putS_lenF (key:=key) x out
   rw [List.foldl_cons,List.length_cons];omega
 have:=this l []
 simpa [setS] using this
theorem flat_few{α β:Type}(f:α→List β)(b:Nat):∀ l:List α,(∀ x∈l,(f x).length≤b)→(l.flatMap f).length≤b*l.length
 | [],_=>by simp
 | x :: l,h=>by
  have h1:=h x (List.mem_cons_self ..)
  have h2:=flat_few f b l fun y hy=>h y (List.mem_cons_of_mem _ hy)
  rw [List.flatMap_cons,List.length_append,List.length_cons,Nat.mul_succ]
  omega
theorem idsOf_few(L:List PatchM)(b:Nat)(h:∀ p∈L,p.ops.length≤b):(idsOf L).length≤b*L.length:=by
 refine flat_few _ b L fun p hp=>Nat.le_trans (List.length_filterMap_le _ _) ?_
 rw [List.length_range];exact h p hp
theorem edgesOf_few(L:List PatchM)(b:Nat)(h:∀ p∈L,p.ops.length≤b):(edgesOf L).length≤b*L.length:=
 flat_few _ b L fun p hp=>Nat.le_trans (List.length_filterMap_le _ _) (h p hp)
end Go.Proofs.YtanfebljiblhbaaGreatDoor
namespace Go.Proofs.YtanfebljiblhbaaGreatDoor
open Go Go.RowKit

/-! ### a sheet of the reference -/
structure RSh (w:World) (lv sv:Value) (l:List VertM) (R:List (Nat × Nat)):Prop where
 row:GRow encVert 9 w lv l
 rel:RRel w l.length sv R
theorem RSh.over{w w':World}{lv sv:Value}{l:List VertM}{R:List (Nat × Nat)}(h:RSh w lv sv l R)(hb:Below w.heap.size w w'):RSh w' lv sv l R:=⟨h.row.over hb,h.rel.over hb⟩
theorem RSh.form{w:World}{lv sv:Value}{l:List VertM}{R:List (Nat × Nat)}(h:RSh w lv sv l R):∃ lp lc sp sc,lv=.slice lp l.length lc∧sv=.slice sp R.length sc∧lc≤maxLen:=by
 obtain⟨a,cap,e1,_,h3,_⟩:=h.row.at encVert_len
 obtain⟨a2,cap2,e2,_⟩:=prow_at h.rel.row
 exact⟨a,cap,a2,cap2,e1,e2,h3⟩
attribute [local irreducible] orderM keptI aliveQL deadQL aliveX firmB
end Go.Proofs.YtanfebljiblhbaaGreatDoor
