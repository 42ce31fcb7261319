/- The program's test of a patch is the document's. -/
import Derived.Test.YtllcipobiengiaaGreatXPGood
import Derived.Test.YtllcipobiengiaaGreatXRGood
set_option linter.unusedVariables false
set_option linter.unusedSimpArgs false
namespace Go.Proofs.YtllcipobiengiaaGreat
open Go Go.RowKit

theorem own_lt{id:PidM}{i:Nat}{o:OpM}{ops:List OpM}(h:opGood id i o=true)(ho:ops[i]? = some o){v:VidM}(hv:v∈refsM o)(e:v.pid=id):∃ x,ops[v.n.toNat]? = some x:=
 get_of_lt (own_ref h ho v hv e)
theorem kindOk_own{id:PidM}{i:Nat}{o:OpM}{ops:List OpM}(h:opGood id i o=true)(ho:ops[i]? = some o){v:VidM}(hv:v∈refsM o):kindOkB id ops o v=ownM id ops v (wantK o):=by
 unfold kindOkB kindM ownM
 by_cases e:v.pid=id
 ·
  obtain⟨x,hx⟩:=own_lt h ho hv e
  rw [if_pos e,hx];simp [e]
 ·
  rw [if_neg e];simp [e]
theorem refs_kind{o:OpM}:(o.kind=2∨o.kind=3→refsM o=[o.at'])∧(o.kind=4→refsM o=[o.at',o.to])∧(o.kind=1→refsM o=[]):=by
 unfold refsM
 refine⟨fun h => ?_,fun h => ?_,fun h => ?_⟩
 ·
  rcases h with h|h <;> simp [h]
 ·
  simp [h]
 ·
  simp [h]
theorem suits_kinds{id:PidM}{i:Nat}{o:OpM}{ops:List OpM}(h:opGood id i o=true)(ho:ops[i]? = some o):(decide (o.kind=5) || suitsM id ops o)=kindsR id ops o:=by
 have hk:=opTail_kind (opGood_tail h)
 have hs:suitsM id ops o=((refsM o).all (fun v=>ownM id ops v (wantK o)) && sameAtB id ops o):=by
  unfold suitsM
  congr 1
  rw [Bool.eq_iff_iff,List.all_eq_true,List.all_eq_true]
  exact forall₂_congr fun v hv=>by rw [kindOk_own h ho hv]
 rw [hs]
 rcases hk with h1|h1|h1|h1|⟨h1,_⟩
 ·
  unfold kindsR sameAtB
  rw [(refs_kind).2.2 h1]
  simp [h1]
 ·
  unfold kindsR sameAtB wantK
  rw [(refs_kind).1 (.inl h1)]
  simp [h1]
 ·
  unfold kindsR sameAtB wantK
  rw [(refs_kind).1 (.inr h1)]
  simp [h1]
 ·
  unfold kindsR sameAtB wantK
  rw [(refs_kind).2.1 h1]
  simp only [h1]
  by_cases ha:o.at'.pid=id <;> by_cases hb:o.to.pid=id <;> simp [ha,hb,Bool.and_assoc]
 ·
  unfold kindsR
  simp [h1]
theorem one_same{id:PidM}{i:Nat}{o:OpM}{ops:List OpM}(ho:ops[i]? = some o):oneP id ops i o=oneR id ops i o:=by
 unfold oneP oneR
 cases h:opGood id i o with
 | false=>rfl
 | true =>
  rw [suits_kinds h ho]
  have hm:(!makesB o.kind)=decide (4≤o.kind.toNat):=by
   rcases opTail_kind (opGood_tail h) with h1|h1|h1|h1|⟨h1,_⟩ <;> rw [h1] <;> decide
  rw [hm,Bool.and_comm (decide (o∈ops.take i)),Bool.and_comm (kindsR id ops o)]
theorem goodQ_eq(p:PatchM):goodQ p.id p.deps p.ops=goodP p:=by
 rw [← goodR_eq]
 unfold goodQ goodR
 have:loopP p.id p.ops=loopR p.id p.ops:=by
  unfold loopP loopR
  rw [Bool.eq_iff_iff,List.all_eq_true,List.all_eq_true]
  refine forall₂_congr fun i hi => ?_
  obtain⟨o,ho⟩:=get_of_lt (List.mem_range.1 hi)
  rw [ho];simp only [one_same ho]
 rw [this]
end Go.Proofs.YtllcipobiengiaaGreat
