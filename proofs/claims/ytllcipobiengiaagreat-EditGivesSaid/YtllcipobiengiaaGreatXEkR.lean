/- Plain words on the patch of some lines: what EditKeeps makes and what it finds. Plain words on the patch of some lines: the relation, who is alive and firm, and what EditKeeps counts. Plain words: how many operations EditKeeps finds. -/
import Derived.Test.YtllcipobiengiaaGreatXWk
set_option linter.unusedVariables false
set_option linter.unusedSimpArgs false
namespace Go.Proofs.YtllcipobiengiaaGreat
open Go Go.RowKit

/-! ### the graph of the patch -/
end Go.Proofs.YtllcipobiengiaaGreat
namespace Go.Proofs.YtllcipobiengiaaGreat
open Go Go.RowKit

/-! ### the operations that are made of nothing -/
end Go.Proofs.YtllcipobiengiaaGreat
namespace Go.Proofs.YtllcipobiengiaaGreat
open Go Go.RowKit

theorem pairsF_self(a:List ByteArray):∀ f i,a.length≤f+i→i≤a.length→pairsF a a f i i=(List.range (a.length - i)).map fun k=>(i+k,i+k)
 | 0,i,h,hi=>by rw [pairsF_end (by omega),show a.length - i=0 by omega];rfl
 | f+1,i,h,hi=>by
  rcases Nat.lt_or_ge i a.length with h1|h1
  ·
   have hx:a[i]? = some a[i]:=List.getElem?_eq_getElem h1
   rw [pairsF_eq hx hx rfl,pairsF_self a f (i+1) (by omega) (by omega),show a.length - i=a.length - (i+1)+1 by omega,List.range_succ_eq_map,List.map_cons,List.map_map]
   congr 1
   refine List.map_congr_left fun k _ => ?_
   show(i+1+k,i+1+k)=(i+(k+1),i+(k+1))
   rw [show i+1+k=i+(k+1) by omega]
  ·
   rw [pairsF_end (by omega),show a.length - i=0 by omega];rfl
theorem pairs_self(a:List ByteArray):pairs a a=(List.range a.length).map fun k=>(k,k):=by
 unfold pairs
 rw [pairsF_self a _ 0 (by omega) (by omega)]
 refine List.map_congr_left fun k _ => ?_
 rw [Nat.zero_add]
theorem adds_noE(l:List VertM)(file:VidM)(id:PidM)(from':Nat):∀(xs:List (Int × ByteArray)) (s:List OpM × List VidM),(∀ x∈xs,0≤x.1)→(xs.foldl (stepA l file id from') s).1=s.1
 | [],s,_=>rfl
 | x :: xs,s,h=>by
  rw [List.foldl_cons,adds_noE l file id from' xs _ fun y hy=>h y (List.mem_cons_of_mem _ hy)]
  unfold stepA
  rw [if_pos (h x (List.mem_cons_self ..))]
end Go.Proofs.YtllcipobiengiaaGreat
