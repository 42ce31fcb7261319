/- How much a few patches make. EditGives, plain: what the walk wants, in one. -/
import Derived.Test.YtllcipobiengiaaGreatXR27
import Derived.Test.YtllcipobiengiaaGreatXRefR
import Derived.Test.YtllcipobiengiaaGreatXEgY
set_option linter.unusedVariables false
set_option linter.unusedSimpArgs false
namespace Go.Proofs.YtllcipobiengiaaGreat
open Go Go.RowKit

theorem modX_in{xs:List LaidP}{y:LaidP}(h:y∈modX xs):y∈xs:=(modX_mem xs [] y h).resolve_left (by simp)
theorem modX_few{xs:List LaidP}:(modX xs).length≤xs.length:=by
 unfold modX
 have h3:=modX_len xs []
 rw [List.length_nil] at h3;omega
theorem fewMod{m:Nat}{xs:List LaidP}(h:fewL m (xs.map (·.p))=true):(patsOf (modX xs)).length≤m∧∀ p∈patsOf (modX xs),p.ops.length≤60:=by
 have h1:=fewL_len h
 rw [List.length_map] at h1
 have h2:=modX_few (xs:=xs)
 refine⟨by show((modX xs).map (·.p)).length≤m;rw [List.length_map];omega,fun p hp => ?_⟩
 obtain⟨y,hy,rfl⟩:=List.mem_map.1 hp
 exact(fewL_ops h (List.mem_map.2 ⟨y,modX_in hy,rfl⟩)).1
theorem few_ids{m:Nat}{xs:List LaidP}(h:fewL m (xs.map (·.p))=true):(idsM (patsOf (modX xs))).length≤60*m:=by
 obtain⟨h1,h2⟩:=fewMod h
 have:=idsOf_few _ 60 h2
 have h3:(idsM (patsOf (modX xs))).length≤(idsOf (patsOf (modX xs))).length:=setS_few _
 have:=Nat.mul_le_mul_left 60 h1
 omega
theorem few_edges{m:Nat}{xs:List LaidP}(h:fewL m (xs.map (·.p))=true):(edgesM (patsOf (modX xs))).length≤60*m:=by
 obtain⟨h1,h2⟩:=fewMod h
 have:=edgesOf_few _ 60 h2
 have h3:(edgesM (patsOf (modX xs))).length≤(edgesOf (patsOf (modX xs))).length:=setS_few _
 have:=Nat.mul_le_mul_left 60 h1
 omega
theorem few_lines{m:Nat}{xs:List LaidP}(h:fewL m (xs.map (·.p))=true)(f:VidM):(linesM (patsOf (modX xs)) f).length≤60*m:=
 Nat.le_trans (ofM_len _ f 3) (few_ids h)
theorem filesM_few(L:List PatchM):(filesM L).length≤(idsM L).length:=by
 unfold filesM;rw [List.length_map];exact Nat.le_trans (List.length_filter_le _ _) (by unfold vertsM;rw [List.length_map];exact Nat.le_refl _)
end Go.Proofs.YtllcipobiengiaaGreat
namespace Go.Proofs.YtllcipobiengiaaGreat
open Go Go.RowKit

/-- what the graph is to be behind the edit -/
structure EgOut (L2:List PatchM) (f:VidM) (want:List ByteArray) (id:PidM):Prop where
 wf:WfG L2
 ids:(idsM L2).length≤3000
 edges:(edgesM L2).length≤3000
 lines:(linesM L2 f).length≤1000
 seen:lnSeen (linesM L2 f) (relM L2 f)=want
 odd:lnOdd (linesM L2 f) (relM L2 f)=0
 done:editM (linesM L2 f) (relM L2 f) (aliveX (linesM L2 f) (relM L2 f)) (firmX (linesM L2 f) (relM L2 f)) f id 0 want (pairs ((firmX (linesM L2 f) (relM L2 f)).map (textAt (linesM L2 f))) want)=[]
theorem ids_bound{L:List PatchM}(hl:∀ p∈L,p.ops.length≤200)(hn:L.length≤15):(idsM L).length≤3000∧(edgesM L).length≤3000:=by
 have h1:=idsOf_few L 200 hl
 have h2:=edgesOf_few L 200 hl
 have h3:(idsM L).length≤(idsOf L).length:=setS_few _
 have h4:(edgesM L).length≤(edgesOf L).length:=setS_few _
 omega
section
variable {L : List PatchM} {f : VidM} {want : List ByteArray} {id : PidM}
theorem EgIn.outStill(h:EgIn L f want id)(he:egOps (linesM L f) (relM L f) f id want=[])(hn:L.length≤14)(hl:(linesM L f).length≤900):EgOut L f want id:=by
 obtain⟨h1,h2⟩:=ids_bound h.len (by omega)
 have h3:=h.still he
 exact⟨h.wf,h1,h2,by omega,h3.1,h3.2,by rw [eg_edit];exact he⟩
theorem negs_le:∀ ks:List Int,negs ks≤ks.length
 | []=>Nat.le_refl _
 | x :: r=>by have:=negs_le r;rw [negs,List.length_cons];split <;> omega
theorem EgIn.outApply(h:EgIn L f want id)(hne:egOps (linesM L f) (relM L f) f id want≠[])(hn:L.length≤14)(hl:(linesM L f).length≤900)(hw:want.length≤30):EgOut (egG L f want id) f want id:=by
 have hwf:=h.wf2 hne
 obtain⟨h1,h2⟩:=ids_bound (wf_len hwf) (by unfold egG;rw [List.length_append,List.length_singleton];omega)
 have h3:=h.behind hne
 refine⟨hwf,h1,h2,?_,h3.1,h3.2.1,by rw [eg_edit];exact h3.2.2⟩
 rw [h.lines2 hne,egLines_len,egNew_len]
 have:=negs_le (egKept (linesM L f) (relM L f) want)
 rw [(egKept_ok (linesM L f) (relM L f) want).len] at this
 omega
theorem eg_small{l:List VertM}{R:List (Nat × Nat)}{m:Nat}(hw:∀ t∈want,t.size≤m):∀ o∈egOps l R f id want,o.text.size≤m:=by
 intro o ho
 obtain⟨i,hi⟩:=List.getElem?_of_mem ho
 rcases eg_cases hi with h1|⟨c,t,_,h2,rfl⟩|⟨c,_,h2⟩
 ·
  obtain⟨_,_,_,rfl⟩:=mem_egKill.1 (List.mem_of_getElem? h1)
  exact Nat.zero_le _
 ·
  obtain⟨x,hx,rfl⟩:=negT_in _ _ (List.mem_of_getElem? h2)
  exact hw _ (List.of_mem_zip (a:=x.1) (b:=x.2) hx).2
 ·
  obtain⟨_,_,_,_,_,_,_,_,_,_,rfl⟩:=mem_egTies.1 (List.mem_of_getElem? h2)
  exact Nat.zero_le _
end
theorem eg_len(l:List VertM)(R:List (Nat × Nat))(f:VidM)(id:PidM)(want:List ByteArray):(egOps l R f id want).length≤l.length+2*want.length:=by
 have h1:=kills_len l (egKept l R want) (aliveX l R)
 have h2:=aliveX_len l R
 have h3:=egNew_len (l:=l) (R:=R) (want:=want)
 have h4:=negs_le (egKept l R want)
 rw [(egKept_ok l R want).len] at h4
 have h5:(egTies l R id want).length≤want.length:=ties_len R (egKept l R want) (egVids l R id want) want.length
 have h6:(egKill l R want).length≤(aliveX l R).length:=h1
 unfold egOps
 rw [List.length_append,List.length_append,List.length_map]
 omega
theorem file_of{L:List PatchM}(hl:∀ p∈L,p.ops.length≤200){f:VidM}(h:f∈filesM L):∃ x,vertM L f=some x∧x.kind=1:=by
 unfold filesM at h
 obtain⟨x,hx,rfl⟩:=List.mem_map.1 h
 obtain⟨h1,h2⟩:=List.mem_filter.1 hx
 exact⟨x,(mem_vertsM hl x).1 h1,by simpa using h2⟩
theorem vecM_le(L:List PatchM)(a:UInt8):vecM L a≤L.length:=by unfold vecM;exact List.length_filter_le _ _
end Go.Proofs.YtllcipobiengiaaGreat
