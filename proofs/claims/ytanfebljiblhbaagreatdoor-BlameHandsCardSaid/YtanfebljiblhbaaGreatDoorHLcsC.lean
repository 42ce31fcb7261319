/- A table of numbers that a call makes: rows of one length in blocks that lie one behind another. Contract of bruitref26.table. Contract of lcs.table. Contracts of bruitref26.Match and lcs.Match. -/
import Derived.Deep.OwnRows
import Derived.Test.YtanfebljiblhbaaGreatDoorHGrQ
import Derived.Test.YtanfebljiblhbaaGreatDoorHWordA
set_option linter.unusedVariables false
set_option linter.unusedSimpArgs false
namespace Go.Proofs.YtanfebljiblhbaaGreatDoor
open Go Go.RowKit

def natRow(g:Nat→Nat)(m:Nat):List Value:=(List.range (m+1)).map fun c=>.int .i64 (g c:Nat)
theorem natRow_get{g:Nat→Nat}{m c:Nat}(h:c≤m):(natRow g m)[c]? = some (.int .i64 (g c:Nat)):=by
 simp [natRow,List.getElem?_range (show c<m+1 by omega)]
theorem natRow_len(g:Nat→Nat)(m:Nat):(natRow g m).length=m+1:=by simp [natRow]
theorem natRow_set{g:Nat→Nat}{m c x:Nat}(_h:c≤m):(natRow g m).set c (.int .i64 (x:Nat))=natRow (fun c'=>if c'=c then x else g c') m:=by
 apply List.ext_getElem?
 intro j
 by_cases hj:j≤m
 ·
  rw [natRow_get hj]
  by_cases hc:c=j
  ·
   subst hc;rw [List.getElem?_set_self (by rw [natRow_len];omega)];simp
  ·
   rw [List.getElem?_set_ne hc,natRow_get hj,if_neg (fun h=>hc h.symm)]
 ·
  rw [List.getElem?_eq_none (by simp [natRow_len];omega),List.getElem?_eq_none (by rw [natRow_len];omega)]
theorem natRow_ext{g g':Nat→Nat}{m:Nat}(h:∀ c,c≤m→g c=g' c):natRow g m=natRow g' m:=by
 unfold natRow
 refine List.map_congr_left fun c hc => ?_
 rw [h c (by simpa [Nat.lt_succ_iff] using hc)]

/-- the outer row: r rows are made -/
def outRow(bo m n i:Nat):List Value:=(List.range (n+1)).map fun r=>if r<i then .slice (some ⟨bo+1+r,0,none⟩) (m+1) (m+1) else .slice none 0 0
theorem outRow_get{bo m n i r:Nat}(h:r<i)(hn:r≤n):(outRow bo m n i)[r]? = some (.slice (some ⟨bo+1+r,0,none⟩) (m+1) (m+1)):=by
 simp [outRow,List.getElem?_range (show r<n+1 by omega),h]
/-- a table: rows 0 to n, each of m + 1 numbers -/
structure TabAt (w:World) (bo n m:Nat) (G:Nat→Nat→Nat):Prop where
 out:Arr w bo (outRow bo m n (n+1))
 rows:∀ r,r≤n→Arr w (bo+1+r) (natRow (G r) m)
theorem TabAt.row{w:World}{bo n m:Nat}{G:Nat→Nat→Nat}(h:TabAt w bo n m G){r:Nat}(hr:r≤n):w.cell? ⟨bo,r,none⟩=some (.slice (some ⟨bo+1+r,0,none⟩) (m+1) (m+1)):=h.out.cell (outRow_get (by omega) hr)
theorem TabAt.cell{w:World}{bo n m:Nat}{G:Nat→Nat→Nat}(h:TabAt w bo n m G){r c:Nat}(hr:r≤n)(hc:c≤m):w.cell? ⟨bo+1+r,c,none⟩=some (.int .i64 (G r c:Nat)):=(h.rows r hr).cell (natRow_get hc)
theorem TabAt.free{w:World}{bo n m:Nat}{G:Nat→Nat→Nat}(h:TabAt w bo n m G){r:Nat}(hr:r≤n)(c:Nat):w.frozen? ⟨bo+1+r,c,none⟩=false:=(h.rows r hr).free c
theorem TabAt.lt{w:World}{bo n m:Nat}{G:Nat→Nat→Nat}(h:TabAt w bo n m G){r:Nat}(hr:r≤n):bo+1+r<w.heap.size:=(h.rows r hr).lt
theorem TabAt.ext{w:World}{bo n m:Nat}{G G':Nat→Nat→Nat}(h:TabAt w bo n m G)(he:∀ r c,r≤n→c≤m→G r c=G' r c):TabAt w bo n m G':=
 ⟨h.out,fun r hr=>by rw [← natRow_ext (fun c hc=>he r c hr hc)];exact h.rows r hr⟩
theorem TabAt.over{w w':World}{bo n m:Nat}{G:Nat→Nat→Nat}(h:TabAt w bo n m G)(hb:Below w.heap.size w w'):TabAt w' bo n m G:=⟨h.out.over hb,fun r hr=>(h.rows r hr).over hb⟩
theorem TabAt.set{w:World}{bo n m:Nat}{G:Nat→Nat→Nat}(h:TabAt w bo n m G){r c:Nat}(hr:r≤n)(hc:c≤m)(x:Nat) :
  TabAt (w.setCell ⟨bo+1+r,c,none⟩ (.int .i64 (x:Nat))) bo n m (fun r' c'=>if r'=r∧c'=c then x else G r' c'):=by
 refine⟨h.out.set_other (by show bo≠bo+1+r;omega) _,fun r' hr' => ?_⟩
 by_cases he:r'=r
 ·
  subst he
  have:=(h.rows r' hr).set c (.int .i64 (x:Nat))
  rw [natRow_set hc] at this
  simpa using this
 ·
  have:=(h.rows r' hr').set_other (a:=⟨bo+1+r,c,none⟩) (by show bo+1+r'≠bo+1+r;omega) (.int .i64 (x:Nat))
  simpa [he] using this
theorem TabAt.drew{w:World}{bo n m:Nat}{G:Nat→Nat→Nat}(h:TabAt w bo n m G):TabAt w.drew bo n m G:=⟨h.out.drew,fun r hr=>(h.rows r hr).drew⟩
end Go.Proofs.YtanfebljiblhbaaGreatDoor
namespace Go.Proofs.YtanfebljiblhbaaGreatDoor
open Go Go.RowKit

theorem slzRows:SlZ Tryz.prog 215 89 (.slice none 0 0) 24:=slZ_of Tryz.underlying215 (by kernel_rfl) rfl
end Go.Proofs.YtanfebljiblhbaaGreatDoor
namespace Go.Proofs.YtanfebljiblhbaaGreatDoor
open Go Go.RowKit

end Go.Proofs.YtanfebljiblhbaaGreatDoor
namespace Go.Proofs.YtanfebljiblhbaaGreatDoor
open Go Go.RowKit

theorem slPair:SlT Tryz.prog 101 158 2 16:=slT_of Tryz.underlying101 (by kernel_rfl) (by decide)
def encP(p:Nat × Nat):List Value:=[.int .i64 p.1,.int .i64 p.2]
end Go.Proofs.YtanfebljiblhbaaGreatDoor
