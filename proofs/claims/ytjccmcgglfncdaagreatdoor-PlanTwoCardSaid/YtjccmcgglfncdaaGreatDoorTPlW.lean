/- What is proved: PlanTwo, for every input; of the listed tables the walk needs the powers of ten. -/
import Derived.Test.YtjccmcgglfncdaaGreatDoorTRcP
import Derived.Test.YtjccmcgglfncdaaGreatDoorTRtR
import Derived.Test.YtjccmcgglfncdaaGreatDoorTPlD
set_option linter.unusedVariables false
set_option linter.unusedSimpArgs false
set_option maxRecDepth 100000
set_option maxHeartbeats 40000000
namespace Go.Proofs.YtjccmcgglfncdaaGreatDoor
open Go
variable{a b:ByteArray}
theorem lessR:∀(x y:List UInt8),Op.bytesLess x y=decide (x<y)
 | [],[]=>by simp [Op.bytesLess]
 | [],b :: y=>by simp [Op.bytesLess]
 | a :: x,[]=>by simp [Op.bytesLess]
 | a :: x,b :: y=>by rw [Op.bytesLess,lessR x y];rw [Bool.eq_iff_iff];simp only [Bool.or_eq_true,Bool.and_eq_true,decide_eq_true_eq,beq_iff_eq,List.cons_lt_cons_iff]
theorem rcB_iff:ltB a b=true↔a.toList<b.toList:=by unfold ltB;rw [lessR];simp
theorem rcB_trans{c:ByteArray}(h:ltB a b=true)(h':ltB b c=true):ltB a c=true:=by rw [rcB_iff] at h h' ⊢;exact List.lt_trans h h'
theorem rcB_irrefl(a:ByteArray):ltB a a=false:=by
 cases h:ltB a a with
 | false=>rfl
 | true=>exact absurd (rcB_iff.1 h) (List.lt_irrefl _)
theorem rcB_asymm(h:ltB a b=true):ltB b a=false:=by
 cases h':ltB b a with
 | false=>rfl
 | true=>have:=rcB_trans h h';rw [rcB_irrefl] at this;cases this
structure IsTree (L:List PatchM) (t:List FileM):Prop where
 perm:t.Perm ((allM L).map (fileT L))
 rise:t.Pairwise fun a b=>ltB a.name b.name=true
theorem tree_one{L:List PatchM}{t u:List FileM}(h:IsTree L t)(h':IsTree L u):t=u:=by refine(h.perm.trans h'.perm.symm).eq_of_pairwise (le:=fun a b=>ltB a.name b.name=true) (fun a b _ _ h1 h2 => ?_) h.rise h'.rise;rw [rcB_asymm h1] at h2;cases h2
theorem tree_same{A B:List PatchM}(hl:linesM A=linesM B)(hr:relM A=relM B)(ha:allM A=allM B){t u:List FileM}(h:IsTree A t)(h':IsTree B u):t=u:=by
 have hf:fileT A=fileT B:=by funext n;unfold fileT;rw [hl,hr]
 refine tree_one h ⟨?_,h'.rise⟩;rw [ha,hf];exact h'.perm
end Go.Proofs.YtjccmcgglfncdaaGreatDoor
namespace Go.Proofs.YtjccmcgglfncdaaGreatDoor
open Go Go.RowKit
variable{f:FileM}{want:List ByteArray}{O:List OpM}{n:NameM}{c i j k:Nat}{o:OpM}{F:VidM}
theorem emb_pre{A s:List OpM}(h:A++s <+: O):EmbAt O A.length s:=by intro j o hj;obtain⟨B,rfl⟩:=h;have hl:=(List.getElem?_eq_some_iff.1 hj).1;rw [List.getElem?_append_left (by rw [List.length_append];omega),List.getElem?_append_right (by omega),Nat.add_sub_cancel_left];exact hj
noncomputable def wantT(t:List FileM)(n:NameM):List ByteArray:=(t.getD (findT t n.name).toNat noFile).lines
section
variable {L : List PatchM} {t : List FileM} {id : PidM}
theorem edTo_one(k:Nat):edTo L t id k <+: edTo L t id (k+1):=by
 rcases Nat.lt_or_ge k (allM L).length with hk|hk
 ·
  rw [edTo_succ (List.getElem?_eq_getElem hk)];unfold plEdStep;split
  · exact List.prefix_refl _
  exact List.prefix_append _ _
 have:edTo L t id (k+1)=edTo L t id k:=by unfold edTo;rw [List.take_of_length_le (by omega),List.take_of_length_le hk]
 rw [this];exact List.prefix_refl _
theorem edTo_mono:∀ {m:Nat},k≤m→edTo L t id k <+: edTo L t id m
 | 0,h=>by rw [Nat.le_zero.1 h];exact List.prefix_refl _
 | m+1,h=>by
  rcases Nat.lt_or_ge m k with q|q
  · rw [show k=m+1 by omega];exact List.prefix_refl _
  exact(edTo_mono q).trans (edTo_one m)
theorem newTo_one(k:Nat):newTo L t id k <+: newTo L t id (k+1):=by
 rcases Nat.lt_or_ge k t.length with hk|hk
 ·
  rw [newTo_succ (List.getElem?_eq_getElem hk)];unfold newStep;split
  · exact List.prefix_refl _
  exact List.prefix_append _ _
 have:newTo L t id (k+1)=newTo L t id k:=by unfold newTo;rw [List.take_of_length_le (by omega),List.take_of_length_le hk]
 rw [this];exact List.prefix_refl _
theorem newTo_mono:∀ {m:Nat},k≤m→newTo L t id k <+: newTo L t id m
 | 0,h=>by rw [Nat.le_zero.1 h];exact List.prefix_refl _
 | m+1,h=>by
  rcases Nat.lt_or_ge m k with q|q
  · rw [show k=m+1 by omega];exact List.prefix_refl _
  exact(newTo_mono q).trans (newTo_one m)
theorem newTo_plan(h:k≤t.length):newTo L t id k <+: planM L t id:=newTo_mono h
theorem edTo_plan(h:k≤(allM L).length):edTo L t id k <+: planM L t id:=by
 have h1:edTo L t id k <+: newTo L t id 0:=by rw [newTo_zero];exact edTo_mono h
 exact h1.trans (newTo_plan (Nat.zero_le _))
theorem kills_plan:killsTo L t (allM L).length <+: planM L t id:=by
 have:=edTo_plan (L:=L) (t:=t) (id:=id) (k:=0) (Nat.zero_le _)
 rwa [edTo_zero] at this
inductive EdF (L:List PatchM) (t:List FileM) (id:PidM):VidM→Nat→List ByteArray→Prop
 | old {k:Nat} {n:NameM}:(allM L)[k]? = some n→¬ findT t n.name<0→EdF L t id n.file (edTo L t id k).length (wantT t n)
 | new {k:Nat} {f:FileM}:t[k]? = some f→isThere (allM L) f=false→EdF L t id ⟨id,UInt8.ofNat (newTo L t id k).length⟩ ((newTo L t id k).length+2) f.lines
theorem no_file{L:List PatchM}(hw:WfG L)(hF:hasM L F.pid=false){v:VidM}{x:VertM}(hx:vertM L v=some x):x.file≠F:=by
  intro e;unfold vertM at hx;obtain⟨o,ho,rfl⟩:=Option.map_eq_some_iff.1 hx;unfold vertOp at ho;obtain⟨p,hp,hm⟩:=List.exists_of_findSome?_eq_some ho;unfold madeBy at hm;split at hm
  ·
   rename_i ep;obtain⟨hget,hmk⟩:=Option.filter_eq_some_iff.1 hm;have e:fileOf v o=F:=e;unfold fileOf at e;have hmem:=List.mem_of_getElem? hget;split at e
   · rw [← e,← ep,hasM_of_mem hp] at hF;cases hF
   rename_i h1;have h2:o.kind=2∨o.kind=3:=((makes_iff o.kind).1 hmk).resolve_left h1;have h3:=hw.refs p hp o hmem o.at' (refs_at_mem (h2.elim .inl fun q=>.inr (.inl q)));rw [e,hF] at h3;cases h3
  cases hm
theorem no_lines{L:List PatchM}(hw:WfG L)(hF:hasM L F.pid=false):linesM L F=[]∧relM L F=[]:=by
 have key:∀ v x,vertM L v=some x→x.file≠F:=fun v x hx=>no_file hw hF hx;have h1:linesM L F=[]:=List.eq_nil_iff_forall_not_mem.2 fun x hx=>by obtain⟨g1,_,g3⟩:=(line_is (wf_len hw)).1 hx;exact key _ _ g1 g3
 refine⟨h1,?_⟩;unfold relM;rw [List.map_eq_nil_iff];refine List.eq_nil_iff_forall_not_mem.2 fun e he => ?_;have:=(step_ends hw (wf_len hw) he).1;rw [h1] at this;exact absurd this List.not_mem_nil
theorem new_lt(h:t[k]? = some f)(hi:isThere (allM L) f=false):(newTo L t id k).length+2≤(newTo L t id (k+1)).length∧(newTo L t id (k+1)).length≤(planM L t id).length:=by have hk:=(List.getElem?_eq_some_iff.1 h).1;refine⟨?_,(newTo_plan (by omega)).length_le⟩;rw [newTo_succ h];unfold newStep;rw [hi,if_neg (by decide),List.length_append];unfold fileOps;simp only [List.length_cons];omega
end
structure PlIn (L:List PatchM) (t:List FileM) (id:PidM):Prop where
 base:PgBase L id (planM L t id)
 tree:treeGood t=true
section
variable {L : List PatchM} {t : List FileM} {id : PidM}
theorem PlIn.newN(h:PlIn L t id)(hk:t[k]? = some f)(hi:isThere (allM L) f=false):(UInt8.ofNat (newTo L t id k).length).toNat=(newTo L t id k).length:=by have h1:=new_lt (id:=id) hk hi;have h2:=h.base.few;simp;omega
theorem PlIn.newEmb(hk:t[k]? = some f)(hi:isThere (allM L) f=false):EmbAt (planM L t id) (newTo L t id k).length (fileOps id (newTo L t id k).length f):=by
 have hlt:=(List.getElem?_eq_some_iff.1 hk).1;refine emb_pre ?_;have:=newTo_plan (L:=L) (t:=t) (id:=id) (k:=k+1) (by omega);rw [newTo_succ hk] at this;unfold newStep at this
 rwa [hi,if_neg (by decide)] at this
theorem PlIn.newLines(h:PlIn L t id)(e:F.pid=id):linesM L F=[]∧relM L F=[]:=no_lines h.base.wf (by rw [e];exact h.base.noId)
theorem PlIn.emb(h:PlIn L t id)(he:EdF L t id F c want):EmbAt (planM L t id) c (pgOps (linesM L F) (relM L F) F id c want):=by
 cases he with
 | @old k n h1 h2 =>have hlt:=(List.getElem?_eq_some_iff.1 h1).1;refine emb_pre ?_;have:=edTo_plan (L:=L) (t:=t) (id:=id) (k:=k+1) (by omega);rw [edTo_succ h1] at this;unfold plEdStep at this;rw [if_neg h2,linesOps_eq] at this;exact this
 | @new k f h1 h2 =>intro j o hj;have h3:=h.newLines (F:=⟨id,UInt8.ofNat (newTo L t id k).length⟩) rfl;rw [h3.1,h3.2,← linesOps_eq] at hj;have h4:=PlIn.newEmb (L:=L) (id:=id) h1 h2 (j+2) o (by unfold fileOps;simpa using hj);rw [show(newTo L t id k).length+2+j=(newTo L t id k).length+(j+2) by omega];exact h4
theorem all_files(hw:WfG L)(hn:n∈allM L):∃ x,vertM L n.file=some x∧x.kind=1∧x.dead=false:=by have h:=(unlike_all hw).ok n hn;obtain⟨x,hx,hk⟩:=h.file;refine⟨x,hx,hk,?_⟩;have:=h.alive;unfold deadAt at this;rw [hx] at this;exact this
theorem all_inj(hw:WfG L){m:NameM}(hi:(allM L)[i]? = some m)(hj:(allM L)[j]? = some n)(e:m.file=n.file):i=j:=by
 have hr:=List.pairwise_iff_getElem.1 (unlike_all hw).rises;obtain⟨h1,g1⟩:=List.getElem?_eq_some_iff.1 hi;obtain⟨h2,g2⟩:=List.getElem?_eq_some_iff.1 hj;rcases Nat.lt_trichotomy i j with k|k|k
 · have:=hr i j h1 h2 k;rw [g1,g2,e] at this;omega
 · exact k
 have:=hr j i h2 h1 k;rw [g1,g2,e] at this;omega
theorem all_uniq(hw:WfG L){m:NameM}(hm:m∈allM L)(hn:n∈allM L)(e:m.name=n.name):m=n:=by
 obtain⟨i,hi⟩:=List.getElem?_of_mem hm;obtain⟨j,hj⟩:=List.getElem?_of_mem hn;have hr:=List.pairwise_iff_getElem.1 (unlike_all hw).uniq;obtain⟨h1,g1⟩:=List.getElem?_eq_some_iff.1 hi;obtain⟨h2,g2⟩:=List.getElem?_eq_some_iff.1 hj;rcases Nat.lt_trichotomy i j with k|k|k
 · have:=hr i j h1 h2 k;rw [g1,g2] at this;exact absurd e this
 · subst k;rw [hi] at hj;exact Option.some.inj hj
 have:=hr j i h2 h1 k;rw [g1,g2] at this;exact absurd e.symm this
theorem PlIn.oldFile(h:PlIn L t id)(hn:n∈allM L):n.file.pid≠id:=by obtain⟨x,hx,_⟩:=all_files h.base.wf hn;exact(h.base.vert hx).2.2
theorem PlIn.newOne(h:PlIn L t id){m:Nat}{g:FileM}(hk:t[k]? = some f)(hi:isThere (allM L) f=false)(hm:t[m]? = some g)(hj:isThere (allM L) g=false)(e:UInt8.ofNat (newTo L t id k).length=UInt8.ofNat (newTo L t id m).length):k=m:=by
 have e2:=congrArg UInt8.toNat e;rw [h.newN hk hi,h.newN hm hj] at e2;have key:∀ {a b:Nat} {u:FileM},t[a]? = some u→isThere (allM L) u=false→a<b→(newTo L t id a).length+2≤(newTo L t id b).length:=by intro a b u ha hu hab;have h1:=(new_lt (id:=id) ha hu).1;have h2:=(newTo_mono (L:=L) (t:=t) (id:=id) (show a+1≤b by omega)).length_le;omega
 rcases Nat.lt_trichotomy k m with q|q|q
 · have:=key hk hi q;omega
 · exact q
 have:=key hm hj q;omega
theorem PlIn.edOne(h:PlIn L t id){c':Nat}{want':List ByteArray}(he:EdF L t id F c want)(he':EdF L t id F c' want'):c=c'∧want=want':=by
 generalize hF:F=F' at he';cases he with
 | @old k n h1 h2 =>
  cases he' with
  | @old m n' g1 g2 =>obtain rfl:=all_inj h.base.wf h1 g1 hF;rw [h1] at g1;rw [Option.some.inj g1];exact⟨rfl,rfl⟩
  | @new m f g1 g2=>exact absurd (congrArg VidM.pid hF) (h.oldFile (List.mem_of_getElem? h1))
 | @new k f h1 h2 =>
  cases he' with
  | @old m n' g1 g2=>exact absurd (congrArg VidM.pid hF).symm (h.oldFile (List.mem_of_getElem? g1))
  | @new m f' g1 g2 =>obtain rfl:=h.newOne h1 h2 g1 g2 (congrArg VidM.n hF);rw [h1] at g1;rw [Option.some.inj g1];exact⟨rfl,rfl⟩
inductive PlCase (L:List PatchM) (t:List FileM) (id:PidM) (i:Nat) (o:OpM):Prop
 | kill {n:NameM}:n∈allM L→o∈killsN L t n→(killsTo L t (allM L).length)[i]? = some o→PlCase L t id i o
 | edit {F:VidM} {c:Nat} {want:List ByteArray} {j:Nat}:EdF L t id F c want→i=c+j→(pgOps (linesM L F) (relM L F) F id c want)[j]? = some o→PlCase L t id i o
 | file {k:Nat} {f:FileM}:t[k]? = some f→isThere (allM L) f=false→i=(newTo L t id k).length→o=pgNewO→PlCase L t id i o
 | name {k:Nat} {f:FileM}:t[k]? = some f→isThere (allM L) f=false→i=(newTo L t id k).length+1→o=⟨2,⟨id,UInt8.ofNat (newTo L t id k).length⟩,noVid,f.name⟩→PlCase L t id i o
theorem ed_case:∀(k:Nat),k≤(allM L).length→∀(i:Nat) (o:OpM),(edTo L t id k)[i]? = some o→PlCase L t id i o
 | 0,_,i,o,h=>by rw [edTo_zero] at h;have hm:=List.mem_of_getElem? h;unfold killsTo at hm;obtain⟨n,hn,ho⟩:=List.mem_flatMap.1 hm;exact .kill (List.mem_of_mem_take hn) ho h
 | k+1,hk,i,o,h=>by
  have hn:=List.getElem?_eq_getElem (l:=allM L) (i:=k) (by omega);rw [edTo_succ hn] at h;unfold plEdStep at h;split at h
  · exact ed_case k (by omega) i o h
  rename_i hf
  by_cases hi:i<(edTo L t id k).length
  · rw [List.getElem?_append_left hi] at h;exact ed_case k (by omega) i o h
  rw [List.getElem?_append_right (by omega),linesOps_eq] at h;exact .edit (.old hn hf) (show i=(edTo L t id k).length+(i - (edTo L t id k).length) by omega) h
theorem PlIn.new_case(hp:PlIn L t id):∀(k:Nat),k≤t.length→∀(i:Nat) (o:OpM),(newTo L t id k)[i]? = some o→PlCase L t id i o
 | 0,_,i,o,h=>by rw [newTo_zero] at h;exact ed_case _ (Nat.le_refl _) i o h
 | k+1,hk,i,o,h=>by
  have hn:=List.getElem?_eq_getElem (l:=t) (i:=k) (by omega);rw [newTo_succ hn] at h;unfold newStep at h;split at h
  · exact hp.new_case k (by omega) i o h
  rename_i hf;have hf:isThere (allM L) t[k]=false:=by simpa using hf
  by_cases hi:i<(newTo L t id k).length
  · rw [List.getElem?_append_left hi] at h;exact hp.new_case k (by omega) i o h
  rw [List.getElem?_append_right (by omega)] at h;obtain⟨j,hj⟩:∃ j,i=(newTo L t id k).length+j:=⟨i - (newTo L t id k).length,by omega⟩;rw [show i - (newTo L t id k).length=j by omega] at h;unfold fileOps at h
  match j with
  | 0=>exact .file hn hf (by omega) (Option.some.inj h).symm
  | 1=>exact .name hn hf (by omega) (Option.some.inj h).symm
  | j+2 =>have h:(linesOps [] [] ⟨id,UInt8.ofNat (newTo L t id k).length⟩ id ((newTo L t id k).length+2) t[k].lines)[j]? = some o:=(by simpa using h);have h3:=hp.newLines (F:=⟨id,UInt8.ofNat (newTo L t id k).length⟩) rfl;rw [linesOps_eq] at h;exact .edit (.new hn hf) (show i=(newTo L t id k).length+2+j by omega) (by rw [h3.1,h3.2];exact h)
theorem PlIn.case(h:PlIn L t id)(ho:(planM L t id)[i]? = some o):PlCase L t id i o:=h.new_case t.length (Nat.le_refl _) i o ho
theorem tree_files(h:treeGood t=true):(t.Pairwise fun a b=>ltB a.name b.name=true)∧∀ f∈t,fileOk f=true:=by
 unfold treeGood at h;rw [Bool.and_eq_true] at h;have hat:∀ i (f:FileM),t[i]? = some f→goodAt t i=true:=fun i f hf=>List.all_eq_true.1 h.2 i (List.mem_range.2 (List.getElem?_eq_some_iff.1 hf).1);have hok:∀ f∈t,fileOk f=true:=by intro f hf;obtain⟨i,hi⟩:=List.getElem?_of_mem hf;have:=hat i f hi;unfold goodAt at this;rw [hi] at this;simp only [Bool.and_eq_true] at this;exact this.1
 refine⟨?_,hok⟩;have hstep:∀ i (f g:FileM),t[i]? = some f→t[i+1]? = some g→ltB f.name g.name=true:=by intro i f g hf hg;have:=hat (i+1) g hg;rw [goodAt_succ hg hf,Bool.and_eq_true] at this;exact this.2
 have hall:∀ d i (f g:FileM),t[i]? = some f→t[i+d+1]? = some g→ltB f.name g.name=true:=by
  intro d;induction d with
  | zero=>exact fun i f g hf hg=>hstep i f g hf hg
  | succ d ih =>intro i f g hf hg;have hlt:=(List.getElem?_eq_some_iff.1 hg).1;have hm:=List.getElem?_eq_getElem (l:=t) (i:=i+d+1) (by omega);exact rcB_trans (ih i f _ hf hm) (hstep (i+d+1) _ g hm hg)
 rw [List.pairwise_iff_getElem];intro i j hi hj hij;have hd:i+(j - i - 1)+1=j:=by omega
 exact hall (j - i - 1) i _ _ (List.getElem?_eq_getElem hi) (by rw [hd];exact List.getElem?_eq_getElem hj)
theorem tree_name(h:treeGood t=true)(hf:f∈t):nameOk f.name=true∧f.also=[]∧f.lines.length≤60∧∀ x∈f.lines,lineOk x=true:=by have:=(tree_files h).2 f hf;unfold fileOk at this;simp only [Bool.and_eq_true,decide_eq_true_eq,List.all_eq_true] at this;exact⟨this.1,List.length_eq_zero_iff.1 this.2.1,this.2.2.1,this.2.2.2⟩
theorem tree_uniq(h:treeGood t=true){g:FileM}(hf:f∈t)(hg:g∈t)(e:f.name=g.name):f=g:=by
 obtain⟨i,hi⟩:=List.getElem?_of_mem hf;obtain⟨j,hj⟩:=List.getElem?_of_mem hg;have hr:=List.pairwise_iff_getElem.1 (tree_files h).1;obtain⟨h1,g1⟩:=List.getElem?_eq_some_iff.1 hi;obtain⟨h2,g2⟩:=List.getElem?_eq_some_iff.1 hj;rcases Nat.lt_trichotomy i j with k|k|k
 · have:=hr i j h1 h2 k;rw [g1,g2,e,rcB_irrefl] at this;cases this
 · subst k;rw [hi] at hj;exact Option.some.inj hj
 have:=hr j i h2 h1 k;rw [g1,g2,e,rcB_irrefl] at this;cases this
theorem find_file(h:¬ findT t n.name<0):∃ f∈t,f.name=n.name∧wantT t n=f.lines:=by obtain⟨k,f,h1,h2,h3⟩:=findT_some h;refine⟨f,List.mem_of_getElem? h2,h3,?_⟩;unfold wantT;rw [h1,Int.toNat_natCast,List.getD_eq_getElem?_getD,h2];rfl
theorem find_yes(ht:treeGood t=true){nm:ByteArray}(hf:f∈t)(e:f.name=nm):¬ findT t nm<0:=by obtain⟨k,hk⟩:=List.getElem?_of_mem hf;have:=findT_at (n:=nm) (k:=k) (fun j g hj hg hn=>by have:=tree_uniq ht (List.mem_of_getElem? hg) hf (by rw [hn,e]);subst this;have hr:=List.pairwise_iff_getElem.1 (tree_files ht).1;obtain⟨h1,g1⟩:=List.getElem?_eq_some_iff.1 hg;obtain⟨h2,g2⟩:=List.getElem?_eq_some_iff.1 hk;have:=hr j k h1 h2 hj;rw [g1,g2,rcB_irrefl] at this;cases this) hk e;rw [this];omega
theorem PlIn.edLines(h:PlIn L t id)(he:EdF L t id F c want):∃ f∈t,f.lines=want:=by
 cases he with
 | @old k n h1 h2 =>obtain⟨f,h3,_,h5⟩:=find_file h2;exact⟨f,h3,h5.symm⟩
 | @new k f h1 h2=>exact⟨f,List.mem_of_getElem? h1,rfl⟩
theorem PlIn.edFile(h:PlIn L t id)(he:EdF L t id F c want)(hi:c≤i):FileOkO L id (planM L t id) i F:=by
 cases he with
 | @old k n h1 h2 =>have hn:=List.mem_of_getElem? h1;obtain⟨x,hx,hk,_⟩:=all_files h.base.wf hn;exact⟨fun _=>⟨x,hx,hk⟩,fun e=>absurd e (h.oldFile hn)⟩
 | @new k f h1 h2 =>
  have e:=h.newN h1 h2;refine⟨fun q=>absurd rfl q,fun _=>⟨?_,?_⟩⟩
  · show(UInt8.ofNat (newTo L t id k).length).toNat<i;rw [e];omega
  · show(planM L t id)[(UInt8.ofNat (newTo L t id k).length).toNat]? = some pgNewO;rw [e];exact PlIn.newEmb (id:=id) h1 h2 0 _ rfl
theorem PlIn.edLine(h:PlIn L t id)(he:EdF L t id F c want){v:VidM}(hv:(pgVids (linesM L F) (relM L F) id c want)[j]? = some v)
  (hi:c+(egKill (linesM L F) (relM L F) want).length+(egNew (linesM L F) (relM L F) want).length≤i):LineOkO L id (planM L t id) F i v:=by
 rcases pg_vid hv with⟨x,m,h1,rfl,_⟩|⟨k,tx,z,h1,_,rfl,_⟩
 · obtain⟨g1,g2,g3,g4⟩:=h.base.line h1;exact⟨fun _=>⟨x,g1,g2,g3⟩,fun e=>absurd e g4⟩
 have hc:=(List.getElem?_eq_some_iff.1 h1).1;obtain⟨h2,h3⟩:=h.base.ownN (h.emb he) hc;refine⟨fun q=>absurd rfl q,fun _=>⟨?_,(egNew (linesM L F) (relM L F) want).getD k ⟨#[]⟩,?_⟩⟩
 · show(UInt8.ofNat (c+(egKill (linesM L F) (relM L F) want).length+k)).toNat<i;rw [h2];omega
 show(planM L t id)[(UInt8.ofNat (c+(egKill (linesM L F) (relM L F) want).length+k)).toNat]? = _;rw [h2];exact h3
theorem PlIn.killed(h:PlIn L t id)(hn:n∈allM L)(ho:o∈killsN L t n):∃ x,vertM L x.id=some x∧o=killOp x.id∧((x.id=n.file∧x.kind=1∧findT t n.name<0)∨(x∈namesM L n.file∧x.kind=2∧x.file=n.file∧x.text≠n.name∧¬ findT t n.name<0)):=by
 unfold killsN at ho;split at ho
 · rename_i hf;obtain⟨x,hx,hk,_⟩:=all_files h.base.wf hn;have e:=vertM_id hx;refine⟨x,by rw [e];exact hx,by rw [e];exact List.mem_singleton.1 ho,.inl ⟨e,hk,hf⟩⟩
 rename_i hf;obtain⟨x,hx,rfl⟩:=List.mem_map.1 ho;obtain⟨h1,h2⟩:=List.mem_filter.1 hx;obtain⟨g1,g2,g3,_⟩:=aliveM_at h.base.len (mem_namesM h.base.len h1);exact⟨x,g1,rfl,.inr ⟨h1,g2,g3,by simpa using h2,hf⟩⟩
theorem PlIn.op(h:PlIn L t id)(ho:(planM L t id)[i]? = some o):PgOp L id (planM L t id) i o:=by
 cases h.case ho with
 | @kill n h1 h2 h3 =>obtain⟨x,hx,rfl,_⟩:=h.killed h1 h2;exact .kill hx
 | @file k f h1 h2 h3 h4=>rw [h4];exact .file
 | @name k f h1 h2 h3 h4 =>
  have e:=h.newN h1 h2;rw [h4];refine .name ⟨fun q=>absurd rfl q,fun _=>⟨?_,?_⟩⟩ (tree_name h.tree (List.mem_of_getElem? h1)).1
  · show(UInt8.ofNat (newTo L t id k).length).toNat<i;rw [e];omega
  · show(planM L t id)[(UInt8.ofNat (newTo L t id k).length).toNat]? = some pgNewO;rw [e];exact PlIn.newEmb (id:=id) h1 h2 0 _ rfl
 | @edit F c want j he hi hj =>
  rcases pg_cases hj with h1|⟨k,tx,h1,h2,rfl⟩|⟨k,h1,h2⟩
  · obtain⟨a,h2,h3,rfl⟩:=mem_egKill.1 (List.mem_of_getElem? h1);have ha:=List.getElem?_eq_getElem (aliveX_lt h2);rw [getD_of ha];exact .kill (h.base.line ha).1
  · refine .line (h.edFile he (by omega)) ?_;obtain⟨x,hx,rfl⟩:=negT_in _ _ (List.mem_of_getElem? h2);obtain⟨f,hf,rfl⟩:=h.edLines he;exact(tree_name h.tree hf).2.2.2 _ (List.of_mem_zip (a:=x.1) (b:=x.2) hx).2
  · obtain⟨m,x,y,u,v,g1,g2,g3,g4,g5,rfl⟩:=mem_pgTies.1 (List.mem_of_getElem? h2);refine .tie (f:=F) (h.edLine he g3 (by omega)) (h.edLine he g4 (by omega)) (fun e => ?_);subst e;exact h.base.vidsOne (h.emb he) g3 g4 (by omega)
theorem PgBase.killOne(h:PgBase L id O)(f:VidM)(want:List ByteArray):(egKill (linesM L f) (relM L f) want).Nodup:=by
 unfold egKill killsE List.Nodup;rw [List.pairwise_map];have hn:(aliveX (linesM L f) (relM L f)).Nodup:=by unfold aliveX;exact(order_nodup _ _).filter _
 refine(List.Pairwise.filter _ hn).imp_of_mem ?_;intro a b ha hb hab e;have ha:=aliveX_lt (List.mem_filter.1 ha).1;have hb:=aliveX_lt (List.mem_filter.1 hb).1;have ea:=List.getElem?_eq_getElem ha;have eb:=List.getElem?_eq_getElem hb;rw [getD_of ea,getD_of eb] at e;exact hab (lines_inj h.len ea eb (congrArg OpM.at' e))
theorem PgBase.tiesOne{f:VidM}(h:PgBase L id O)(hE:EmbAt O c (pgOps (linesM L f) (relM L f) f id c want)):(pgTies (linesM L f) (relM L f) id c want).Nodup:=by
 have hvl:=pgVids_len (l:=linesM L f) (R:=relM L f) (want:=want) (id:=id) (c:=c);unfold pgTies List.Nodup;rw [List.pairwise_flatMap];refine⟨fun j _ => ?_,?_⟩
 ·
  unfold edgesE;split
  · exact List.pairwise_singleton _ _
  exact List.Pairwise.nil
 refine(List.pairwise_lt_range (n:=want.length)).imp_of_mem ?_;intro a b ha hb hab x hx y hy e;have hb:=List.mem_range.1 hb;unfold edgesE at hx hy;split at hx
 ·
  rename_i ca;split at hy
  · have hx:=List.mem_singleton.1 hx;have hy:=List.mem_singleton.1 hy;rw [hx,hy] at e;have e1:=congrArg OpM.to e;simp only at e1;have g1:(pgVids (linesM L f) (relM L f) id c want)[a]? = some ((pgVids (linesM L f) (relM L f) id c want).getD a noVid):=(by rw [List.getD_eq_getElem?_getD,List.getElem?_eq_getElem (by omega)];rfl);have g2:(pgVids (linesM L f) (relM L f) id c want)[b]? = some ((pgVids (linesM L f) (relM L f) id c want).getD b noVid):=(by rw [List.getD_eq_getElem?_getD,List.getElem?_eq_getElem (by omega)];rfl);rw [← e1] at g2;exact h.vidsOne hE g1 g2 hab
  exact absurd hy List.not_mem_nil
 exact absurd hx List.not_mem_nil
theorem PlIn.killsOne(h:PlIn L t id):(killsTo L t (allM L).length).Nodup:=by
 unfold killsTo List.Nodup;rw [List.take_length,List.pairwise_flatMap];refine⟨fun n hn => ?_,?_⟩
 ·
  unfold killsN;split
  · exact List.pairwise_singleton _ _
  rw [List.pairwise_map];have hr:(namesM L n.file).Pairwise fun a b=>a.id≠b.id:=by
   have h1:((namesM L n.file).map (·.id)).Nodup:=by have e:(namesM L n.file).map (·.id)=setS revK ((aliveM L n.file).map (·.id)):=(by unfold namesM;rw [List.map_map];refine(List.map_congr_left fun v hv => ?_).trans (List.map_id _);rw [mem_setS revK_inj] at hv;obtain⟨y,hy,rfl⟩:=List.mem_map.1 hv;show((vertM L y.id).getD noVert).id=y.id;rw [(aliveM_at h.base.len hy).1];rfl);rw [e];have:=rises_setS revK_inj ((aliveM L n.file).map (·.id));unfold Rises at this;unfold List.Nodup;exact this.imp fun hab e=>by rw [e] at hab;omega
   unfold List.Nodup at h1
   rwa [List.pairwise_map] at h1
  exact(hr.filter _).imp fun hab e=>hab (congrArg OpM.at' e)
 refine(unlike_all h.base.wf).rises.imp_of_mem ?_;intro m n hm hn hmn x hx y hy e;have hne:m.file≠n.file:=fun q=>by rw [q] at hmn;omega
 obtain⟨a,ha,rfl,ca⟩:=h.killed hm hx;obtain⟨b,hb,rfl,cb⟩:=h.killed hn hy;have e:a.id=b.id:=congrArg OpM.at' e;rw [e,hb] at ha;have e2:=Option.some.inj ha;subst e2;rcases ca with⟨a1,a2,_⟩|⟨_,a2,a3,_⟩ <;> rcases cb with⟨b1,b2,_⟩|⟨_,b2,b3,_⟩
 · exact hne (by rw [← a1,b1])
 · rw [a2] at b2;exact absurd b2 (by decide)
 · rw [a2] at b2;exact absurd b2 (by decide)
 exact hne (by rw [← a3,b3])
theorem line_file{F' u:VidM}{i':Nat}(h:LineOkO L id O F i u)(h':LineOkO L id O F' i' u):F=F':=by
 by_cases e:u.pid=id
 · obtain⟨_,t1,g1⟩:=h.2 e;obtain⟨_,t2,g2⟩:=h'.2 e;rw [g1] at g2;exact congrArg OpM.at' (Option.some.inj g2)
 obtain⟨x,g1,_,g3⟩:=h.1 e;obtain⟨y,k1,_,k3⟩:=h'.1 e;rw [g1] at k1;rw [← g3,← k3,Option.some.inj k1]
theorem PlIn.big(h:PlIn L t id)(he:EdF L t id F c want)(hj:(pgOps (linesM L F) (relM L F) F id c want)[j]? = some o)(h4:4≤o.kind.toNat) :
  ((egKill (linesM L F) (relM L F) want)[j]? = some o∧∃ x,vertM L x.id=some x∧x.kind=3∧x.file=F∧o=killOp x.id) ∨
  (∃ m,j=(egKill (linesM L F) (relM L F) want).length+(egNew (linesM L F) (relM L F) want).length+m∧(pgTies (linesM L F) (relM L F) id c want)[m]? = some o∧o.kind=4∧LineOkO L id (planM L t id) F (c+j) o.at'):=by
 rcases pg_cases hj with h1|⟨k,tx,h1,h2,rfl⟩|⟨k,h1,h2⟩
 · obtain⟨a,h2,h3,e⟩:=mem_egKill.1 (List.mem_of_getElem? h1);have ha:=List.getElem?_eq_getElem (aliveX_lt h2);rw [getD_of ha] at e;obtain⟨g1,g2,g3,_⟩:=h.base.line ha;exact .inl ⟨h1,_,g1,g2,g3,e⟩
 · exact absurd h4 (show ¬ 4≤(3:UInt8).toNat by decide)
 obtain⟨m,x,y,u,v,g1,g2,g3,g4,g5,e⟩:=mem_pgTies.1 (List.mem_of_getElem? h2);refine .inr ⟨k,h1,h2,by rw [e],?_⟩;rw [e];exact h.edLine he g3 (by omega)
theorem PlIn.one(h:PlIn L t id)(hi:(planM L t id)[i]? = some o)(hk:(planM L t id)[k]? = some o)(h4:4≤o.kind.toNat):i=k:=by
 have hsmall:∀ {m:Nat} {f:FileM},o=pgNewO∨o=(⟨2,⟨id,UInt8.ofNat (newTo L t id m).length⟩,noVid,f.name⟩:OpM)→False:=by
  intro m f e;rcases e with e|e
  · rw [e] at h4;exact absurd h4 (show ¬ 4≤(1:UInt8).toNat by decide)
  rw [e] at h4;exact absurd h4 (show ¬ 4≤(2:UInt8).toNat by decide)
 have hKE:∀ {n:NameM} {F:VidM} {c:Nat} {want:List ByteArray} {j:Nat},n∈allM L→o∈killsN L t n→EdF L t id F c want→(pgOps (linesM L F) (relM L F) F id c want)[j]? = some o→False:=by
  intro n F c want j hn ho he hj;obtain⟨x,hx,rfl,cx⟩:=h.killed hn ho;rcases h.big he hj h4 with⟨_,y,hy,ky,_,e⟩|⟨_,_,_,e,_⟩
  ·
   have e:x.id=y.id:=congrArg OpM.at' e;rw [e,hy] at hx;have e2:=Option.some.inj hx;subst e2;rcases cx with⟨_,a2,_⟩|⟨_,a2,_⟩
   · rw [a2] at ky;exact absurd ky (by decide)
   rw [a2] at ky;exact absurd ky (by decide)
  exact absurd e (show ¬ (5:UInt8)=4 by decide)
 cases h.case hi with
 | @kill n h1 h2 h3 =>
  cases h.case hk with
  | @kill n' g1 g2 g3=>exact nodup_at' h.killsOne h3 g3
  | @edit F c want j g1 g2 g3=>exact(hKE h1 h2 g1 g3).elim
  | @file m f _ _ _ g4=>exact(hsmall (m:=m) (f:=f) (.inl g4)).elim
  | @name m f _ _ _ g4=>exact(hsmall (.inr g4)).elim
 | @edit F c want j h1 h2 h3 =>
  cases h.case hk with
  | @kill n' g1 g2 g3=>exact(hKE g1 g2 h1 h3).elim
  | @file m f _ _ _ g4=>exact(hsmall (m:=m) (f:=f) (.inl g4)).elim
  | @name m f _ _ _ g4=>exact(hsmall (.inr g4)).elim
  | @edit F' c' want' j' g1 g2 g3 =>
   rcases h.big h1 h3 h4 with⟨a1,x,a2,a3,a4,a5⟩|⟨m,a1,a2,a3,a4⟩
   ·
    rcases h.big g1 g3 h4 with⟨b1,y,b2,b3,b4,b5⟩|⟨m',b1,b2,b3,b4⟩
    · have e:x.id=y.id:=congrArg OpM.at' (a5.symm.trans b5);rw [e,b2] at a2;have e2:=Option.some.inj a2;subst e2;have eF:F=F':=a4.symm.trans b4;subst eF;obtain⟨rfl,rfl⟩:=h.edOne h1 g1;have:=nodup_at' (h.base.killOne F want) a1 b1;omega
    · rw [a5] at b3;exact absurd b3 (show ¬ (5:UInt8)=4 by decide)
   ·
    rcases h.big g1 g3 h4 with⟨b1,y,b2,b3,b4,b5⟩|⟨m',b1,b2,b3,b4⟩
    · rw [b5] at a3;exact absurd a3 (show ¬ (5:UInt8)=4 by decide)
    · have eF:F=F':=line_file a4 b4;subst eF;obtain⟨rfl,rfl⟩:=h.edOne h1 g1;have:=nodup_at' (h.base.tiesOne (h.emb h1)) a2 b2;omega
 | @file m f _ _ _ g4=>exact(hsmall (m:=m) (f:=f) (.inl g4)).elim
 | @name m f _ _ _ g4=>exact(hsmall (.inr g4)).elim
theorem PlIn.inn(h:PlIn L t id):PgIn L id (planM L t id):=⟨h.base,fun i o ho=>h.op ho,fun i k o hi hk h4=>h.one hi hk h4⟩
theorem PlIn.fileE(h:PlIn L t id)(hne:planM L t id≠[])(he:EdF L t id F c want):PgF L id (planM L t id) F c want:=by
 refine⟨h.emb he,fun i tx ho => ?_,fun x hx hh => ?_,fun o ho hk hf => ?_⟩
 ·
  cases h.case ho with
  | @kill n h1 h2 h3 =>obtain⟨x,_,e,_⟩:=h.killed h1 h2;exact absurd (congrArg OpM.kind e) (show ¬ (3:UInt8)=5 by decide)
  | @file k f _ _ _ g4=>exact absurd (congrArg OpM.kind g4) (show ¬ (3:UInt8)=1 by decide)
  | @name k f _ _ _ g4=>exact absurd (congrArg OpM.kind g4) (show ¬ (3:UInt8)=2 by decide)
  | @edit F' c' want' j g1 g2 g3 =>
   have eF:F'=F:=by
    rcases pg_cases g3 with q|⟨k,t',_,_,q⟩|⟨k,_,q⟩
    · obtain⟨_,_,_,e⟩:=mem_egKill.1 (List.mem_of_getElem? q);exact absurd (congrArg OpM.kind e) (show ¬ (3:UInt8)=5 by decide)
    · exact(congrArg OpM.at' q).symm
    obtain⟨_,_,_,_,_,_,_,_,_,_,e⟩:=mem_pgTies.1 (List.mem_of_getElem? q);exact absurd (congrArg OpM.kind e) (show ¬ (3:UInt8)=4 by decide)
   subst eF;obtain⟨rfl,rfl⟩:=h.edOne he g1;exact⟨j,g2,g3⟩
 ·
  obtain⟨hx1,hx2,hx3⟩:=(line_is h.base.len).1 hx;unfold hitO at hh;obtain⟨o,ho,h1⟩:=List.any_eq_true.1 hh;simp only [Bool.and_eq_true,decide_eq_true_eq] at h1;obtain⟨i,hi⟩:=List.getElem?_of_mem ho;cases h.case hi with
  | @kill n g1 g2 g3 =>
   obtain⟨y,hy,rfl,cy⟩:=h.killed g1 g2;have e:y.id=x.id:=h1.2;rw [e,hx1] at hy;have e2:=Option.some.inj hy;subst e2;rcases cy with⟨_,a2,_⟩|⟨_,a2,_⟩
   · rw [a2] at hx2;exact absurd hx2 (by decide)
   rw [a2] at hx2;exact absurd hx2 (by decide)
  | @file k f _ _ _ g4=>rw [g4] at h1;exact absurd h1.1 (show ¬ (1:UInt8)=5 by decide)
  | @name k f _ _ _ g4=>rw [g4] at h1;exact absurd h1.1 (show ¬ (2:UInt8)=5 by decide)
  | @edit F' c' want' j g1 g2 g3 =>
   rcases h.big g1 g3 (by rw [h1.1];decide) with⟨b1,y,b2,b3,b4,b5⟩|⟨m',b1,b2,b3,b4⟩
   · have e:y.id=x.id:=(by rw [← h1.2,b5];rfl);rw [e,hx1] at b2;have e2:=Option.some.inj b2;subst e2;have eF:F=F':=hx3.symm.trans b4;subst eF;obtain⟨rfl,rfl⟩:=h.edOne he g1;exact⟨o,List.mem_of_getElem? b1,h1.2⟩
   rw [b3] at h1;exact absurd h1.1 (by decide)
 obtain⟨i,hi⟩:=List.getElem?_of_mem ho;cases h.case hi with
 | @kill n g1 g2 g3 =>obtain⟨y,hy,rfl,cy⟩:=h.killed g1 g2;exact absurd hk (show ¬ (5:UInt8)=4 by decide)
 | @file k f _ _ _ g4=>rw [g4] at hk;exact absurd hk (show ¬ (1:UInt8)=4 by decide)
 | @name k f _ _ _ g4=>rw [g4] at hk;exact absurd hk (show ¬ (2:UInt8)=4 by decide)
 | @edit F' c' want' j g1 g2 g3 =>
  rcases h.big g1 g3 (by rw [hk];decide) with⟨b1,y,b2,b3,b4,b5⟩|⟨m',b1,b2,b3,b4⟩
  · rw [b5] at hk;exact absurd hk (show ¬ (5:UInt8)=4 by decide)
  have eF:F'=F:=by
   rw [← hf];unfold fileAt
   by_cases e:o.at'.pid=id
   · obtain⟨_,tx,hx⟩:=b4.2 e;rw [h.inn.vertAt hne e hx rfl];rfl
   obtain⟨x,hx,_,hxf⟩:=b4.1 e;rw [h.inn.vertOld e,hx];exact hxf.symm
  subst eF;obtain⟨rfl,rfl⟩:=h.edOne he g1;exact List.mem_of_getElem? b2
end
end Go.Proofs.YtjccmcgglfncdaaGreatDoor
namespace Go.Proofs.YtjccmcgglfncdaaGreatDoor
open Go Go.RowKit
variable{f:FileM}{L:List PatchM}{v:VidM}
def ownN(L:List PatchM)(v:VidM):ByteArray:=((namesM L v).headD noVert).text
def liveF(L:List PatchM):List VidM:=(filesM L).filter fun v => !deadAt L v
structure Calm (L:List PatchM):Prop where
 one:∀ v∈liveF L,namesM L v≠[]∧∀ x∈namesM L v,x.text=ownN L v
 inj:∀ v∈liveF L,∀ u∈liveF L,ownN L v=ownN L u→v=u
theorem also_nil{l:List VertM}{s:ByteArray}(h:∀ x∈l,x.text=s):alsoM l s=[]:=by
 have h1:othersM l s=[]:=by unfold othersM;rw [List.map_eq_nil_iff,List.filter_eq_nil_iff];intro x hx;simp [h x hx]
 unfold alsoM;rw [h1,List.mergeSort_nil];rfl
theorem calm_to(hw:WfG L)(h:Calm L):∀ k,(allTo L k).1=(((filesM L).take k).filter fun v => !deadAt L v).map (fun v=>(⟨v,ownN L v,[],[]⟩:NameM))∧∀ u,0<(allTo L k).2 u→∃ v∈(filesM L).take k,deadAt L v=false∧ownN L v=u
 | 0=>⟨rfl,fun u hu=>absurd hu (Nat.lt_irrefl _)⟩
 | k+1=>by
  obtain⟨ih1,ih2⟩:=calm_to hw h k;rcases Nat.lt_or_ge k (filesM L).length with hk|hk
  rotate_left
  · have:allTo L (k+1)=allTo L k:=(by unfold allTo;rw [List.take_of_length_le (by omega),List.take_of_length_le hk]);rw [this,List.take_of_length_le (by omega)];rw [List.take_of_length_le hk] at ih1 ih2;exact⟨ih1,ih2⟩
  have hf:=List.getElem?_eq_getElem hk;rw [allTo_succ hf,take_one hf];generalize hF:(filesM L)[k]=f at hf ⊢;unfold stepN
  by_cases hd:deadAt L f=true
  ·
   rw [if_pos hd];refine⟨?_,fun u hu => ?_⟩
   · rw [List.filter_append,ih1];simp [hd]
   obtain⟨v,h1,h2⟩:=ih2 u hu;exact⟨v,List.mem_append_left _ h1,h2⟩
  rw [if_neg hd];have hd:deadAt L f=false:=by simpa using hd
  have hm:f∈liveF L:=by unfold liveF;exact List.mem_filter.2 ⟨List.mem_of_getElem? hf,by rw [hd];rfl⟩
  obtain⟨h1,h2⟩:=h.one f hm;have hown:∀ x l,namesM L f=x :: l→x.text=ownN L f:=fun x l e=>h2 x (by rw [e];exact List.mem_cons_self ..);have hz:(allTo L k).2 (ownN L f)=0:=by
   refine Classical.byContradiction fun q => ?_;obtain⟨v,g1,g2,g3⟩:=ih2 (ownN L f) (Nat.pos_of_ne_zero q);have hv:v∈liveF L:=(by unfold liveF;exact List.mem_filter.2 ⟨List.mem_of_mem_take g1,by rw [g2];rfl⟩);have e:=h.inj v hv f hm g3;subst e;obtain⟨j,hj⟩:=List.getElem?_of_mem g1;rw [List.getElem?_take] at hj;split at hj
   · have hr:=List.pairwise_iff_getElem.1 (filesM_rises (wf_len hw));obtain⟨l1,e1⟩:=List.getElem?_eq_some_iff.1 hj;obtain⟨l2,e2⟩:=List.getElem?_eq_some_iff.1 hf;have:=hr j k l1 l2 (by omega);rw [e1,e2] at this;omega
   cases hj
  cases hn:namesM L f with
  | nil=>exact absurd hn h1
  | cons x l =>
   have hx:=hown x l hn;have hal:alsoM (x :: l) x.text=[]:=also_nil fun y hy=>by rw [hx];exact h2 y (by rw [hn];exact hy)
   refine⟨?_,fun u hu => ?_⟩
   · rw [List.filter_append,List.map_append];show(allTo L k).1++[nameOne L (allTo L k).2 f (x :: l)]=_;rw [ih1];congr 1;simp only [nameOne];rw [hal,hx,hz];simp [hd]
   show _;have hu:0<bumpT (allTo L k).2 x.text u:=hu;unfold bumpT at hu;split at hu
   · rename_i e;exact⟨f,List.mem_append_right _ (List.mem_singleton.2 rfl),hd,by rw [e,hx]⟩
   obtain⟨v,g1,g2⟩:=ih2 u hu;exact⟨v,List.mem_append_left _ g1,g2⟩
theorem calm_all(hw:WfG L)(h:Calm L):allM L=(liveF L).map fun v=>(⟨v,ownN L v,[],[]⟩:NameM):=by have:=(calm_to hw h (filesM L).length).1;rw [List.take_length] at this;exact this
theorem names_mem(hl:∀ p∈L,p.ops.length≤200){f:VidM}{x:VertM}:x∈namesM L f↔vertM L x.id=some x∧x.kind=2∧x.file=f∧x.dead=false:=by
 constructor
 · exact fun h=>aliveM_at hl (mem_namesM hl h)
 rintro⟨h1,h2,h3,h4⟩;have hm:x∈aliveM L f:=by
  unfold aliveM ofM;refine List.mem_filter.2 ⟨List.mem_filter.2 ⟨(mem_vertsM hl x).2 h1,?_⟩,?_⟩
  · simp [h2,h3]
  rw [h4];rfl
 unfold namesM;refine List.mem_map.2 ⟨x.id,(mem_setS revK_inj _ _).2 (List.mem_map.2 ⟨x,hm,rfl⟩),?_⟩;rw [h1];rfl
theorem live_mem(hl:∀ p∈L,p.ops.length≤200):v∈liveF L↔∃ x,vertM L v=some x∧x.kind=1∧x.dead=false:=by
 unfold liveF filesM;rw [List.mem_filter,List.mem_map];constructor
 · rintro⟨⟨x,hx,rfl⟩,hd⟩;obtain⟨h1,h2⟩:=List.mem_filter.1 hx;have h3:=(mem_vertsM hl x).1 h1;refine⟨x,h3,by simpa using h2,?_⟩;unfold deadAt at hd;rw [h3] at hd;simpa using hd
 rintro⟨x,hx,hk,hd⟩;have e:=vertM_id hx;refine⟨⟨x,List.mem_filter.2 ⟨(mem_vertsM hl x).2 (by rw [e];exact hx),by simp [hk]⟩,e⟩,?_⟩;unfold deadAt;rw [hx];show(!x.dead)=true;rw [hd];rfl
theorem all_live:∀ k,((allTo L k).1.map (·.file))=((filesM L).take k).filter fun v => !deadAt L v
 | 0=>rfl
 | k+1=>by
  have ih:((allTo L k).1.map (·.file))=((filesM L).take k).filter fun v => !deadAt L v:=all_live k;rcases Nat.lt_or_ge k (filesM L).length with hk|hk
  ·
   have hf:=List.getElem?_eq_getElem hk;rw [allTo_succ hf,take_one hf];unfold stepN
   by_cases hd:deadAt L (filesM L)[k]=true
   · rw [if_pos hd,ih,List.filter_append];simp [hd]
   rw [if_neg hd,List.map_append,ih,List.filter_append];have hd:deadAt L (filesM L)[k]=false:=(by simpa using hd);congr 1;simp only [hd,List.map_cons,List.map_nil];cases namesM L (filesM L)[k] <;> simp [nameOne,hd]
  have:allTo L (k+1)=allTo L k:=by unfold allTo;rw [List.take_of_length_le (by omega),List.take_of_length_le hk]
  rw [this,List.take_of_length_le (by omega),ih,List.take_of_length_le hk]
theorem all_liveF(L:List PatchM):(allM L).map (·.file)=liveF L:=by have:=all_live (L:=L) (filesM L).length;rw [List.take_length] at this;exact this
theorem name_given{n:NameM}(hn:n∈allM L)(hok:nameOk n.name=true):∃ x∈namesM L n.file,x.text=n.name:=by
 obtain⟨c,f,rfl⟩:=all_names n hn;cases hl:namesM L f with
 | nil =>rw [hl] at hok;have:nameOk (tilde++textB f)=true:=hok;rw [tilde_bad0] at this;cases this
 | cons x l =>
  rw [hl] at hok;have hf:(nameOne L c f (x :: l)).file=f:=rfl;rw [hf,hl];refine⟨x,List.mem_cons_self ..,?_⟩;simp only [nameOne] at hok ⊢
  by_cases h1:1<c x.text+1
  · rw [if_pos h1,tilde_bad] at hok;cases hok
  · rw [if_neg h1]
section
variable {L : List PatchM} {t : List FileM} {id : PidM}
theorem plan_nil(hw:WfG L)(ht:treeGood t=true)(h:planM L t id=[]):IsTree L t∧cleanM L=true:=by
 have hK:killsTo L t (allM L).length=[]:=List.prefix_nil.1 (h▸kills_plan);have hE:∀ k,k≤(allM L).length→edTo L t id k=[]:=fun k hk=>List.prefix_nil.1 (h▸edTo_plan hk);have hN:∀ k,k≤t.length→newTo L t id k=[]:=fun k hk=>List.prefix_nil.1 (h▸newTo_plan hk);have hkn:∀ n∈allM L,killsN L t n=[]:=by intro n hn;unfold killsTo at hK;rw [List.take_length,List.flatMap_eq_nil_iff] at hK;exact hK n hn
 have hfd:∀ n∈allM L,¬ findT t n.name<0:=by intro n hn q;have:=hkn n hn;unfold killsN at this;rw [if_pos q] at this;cases this
 have htx:∀ n∈allM L,∀ x∈namesM L n.file,x.text=n.name:=by intro n hn x hx;have:=hkn n hn;unfold killsN at this;rw [if_neg (hfd n hn),List.map_eq_nil_iff,List.filter_eq_nil_iff] at this;simpa using this x hx
 have hln:∀ n∈allM L,lnSeen (linesM L n.file) (relM L n.file)=wantT t n∧lnOdd (linesM L n.file) (relM L n.file)=0:=by intro n hn;obtain⟨k,hk⟩:=List.getElem?_of_mem hn;have hlt:=(List.getElem?_eq_some_iff.1 hk).1;have h1:=hE (k+1) (by omega);rw [edTo_succ hk,hE k (by omega)] at h1;unfold plEdStep at h1;rw [if_neg (hfd n hn),List.nil_append] at h1;exact eg_still hw h1
 have hth:∀ f∈t,isThere (allM L) f=true:=by
  intro f hf;obtain⟨k,hk⟩:=List.getElem?_of_mem hf;have hlt:=(List.getElem?_eq_some_iff.1 hk).1;cases hc:isThere (allM L) f with
  | true=>rfl
  | false =>have h1:=(new_lt (id:=id) hk hc).1;rw [hN (k+1) (by omega)] at h1;simp at h1
 have hone:∀ n∈allM L,n.flaws=[]∧n.also=[]:=by
  intro n hn;obtain⟨f,hf,hfn,_⟩:=find_file (hfd n hn);have hok:=(tree_name ht hf).1;rw [hfn] at hok;have ht2:=htx n hn;have hnf:=name_clean hw;obtain⟨c,v,rfl⟩:=all_names n hn;have hal:(nameOne L c v (namesM L v)).also=[]:=by
   have e:(nameOne L c v (namesM L v)).file=v:=by cases namesM L v <;> rfl
   rw [e] at ht2;cases hl:namesM L v with
   | nil=>rfl
   | cons x l =>rw [hl] at ht2;have hx:=ht2 x (List.mem_cons_self ..);show alsoM (x :: l) x.text=[];rw [hx];exact also_nil ht2
  have:=hnf c v (namesM L v) (fun x hx=>name_ok hw hx);rw [hok,hal] at this;exact⟨of_decide_eq_true (by rw [this];rfl),hal⟩
 have hfile:∀ n∈allM L,fileT L n∈t:=by
  intro n hn;obtain⟨f,hf,hfn,hw'⟩:=find_file (hfd n hn);have:fileT L n=f:=by
   unfold fileT;rw [(hone n hn).2,(hln n hn).1,hw',← hfn];have:=(tree_name ht hf).2.1;cases f
   simp at this ⊢;exact this
  rw [this];exact hf
 have hrise:=(tree_files ht).1;refine⟨⟨?_,hrise⟩,?_⟩
 ·
  have hnd1:t.Nodup:=by unfold List.Nodup;exact hrise.imp fun hab e=>by rw [e,rcB_irrefl] at hab;cases hab
  have hnd2:((allM L).map (fileT L)).Nodup:=by unfold List.Nodup;rw [List.pairwise_map];exact(unlike_all hw).uniq.imp fun hab e=>hab (congrArg FileM.name e)
  refine(List.perm_ext_iff_of_nodup hnd1 hnd2).2 fun f => ?_;rw [List.mem_map];constructor
  · intro hf;have h1:=hth f hf;unfold isThere at h1;obtain⟨n,hn,e⟩:=List.any_eq_true.1 h1;have e:n.name=f.name:=(by simpa using e);exact⟨n,hn,tree_uniq ht (hfile n hn) hf e⟩
  rintro⟨n,hn,rfl⟩;exact hfile n hn
 unfold cleanM;rw [List.all_eq_true];intro n hn;unfold oddN;rw [(hln n hn).2,(hone n hn).1];rfl
theorem hit_mem{O:List OpM}:hitO O v=true↔∃ o∈O,o.kind=5∧o.at'=v:=by unfold hitO;rw [List.any_eq_true];refine exists_congr fun o=>and_congr Iff.rfl ?_;simp
theorem PlIn.hitOld(h:PlIn L t id){x:VertM}(hx:vertM L x.id=some x)(hk:x.kind≠3)(hh:hitO (planM L t id) x.id=true) :
  ∃ n∈allM L,(x.id=n.file∧findT t n.name<0)∨(x∈namesM L n.file∧x.text≠n.name∧x.file=n.file):=by
 obtain⟨o,ho,h5,ha⟩:=hit_mem.1 hh;obtain⟨i,hi⟩:=List.getElem?_of_mem ho;cases h.case hi with
 | @kill n g1 g2 g3 =>
  obtain⟨y,hy,rfl,cy⟩:=h.killed g1 g2;have e:y.id=x.id:=ha;rw [e,hx] at hy;have e2:=Option.some.inj hy;subst e2;rcases cy with⟨a1,_,a3⟩|⟨a1,_,a3,a4,_⟩
  · exact⟨n,g1,.inl ⟨a1,a3⟩⟩
  · exact⟨n,g1,.inr ⟨a1,a4,a3⟩⟩
 | @file k f _ _ _ g4=>rw [g4] at h5;exact absurd h5 (show ¬ (1:UInt8)=5 by decide)
 | @name k f _ _ _ g4=>rw [g4] at h5;exact absurd h5 (show ¬ (2:UInt8)=5 by decide)
 | @edit F' c' want' j g1 g2 g3 =>
  rcases h.big g1 g3 (by rw [h5];decide) with⟨b1,y,b2,b3,b4,b5⟩|⟨m',b1,b2,b3,b4⟩
  · have e:y.id=x.id:=(by rw [← ha,b5];rfl);rw [e,hx] at b2;have e2:=Option.some.inj b2;subst e2;exact absurd b3 hk
  · rw [b3] at h5;exact absurd h5 (by decide)
inductive NmF (L:List PatchM) (t:List FileM) (id:PidM):VidM→FileM→Prop
 | old {n:NameM} {f:FileM}:n∈allM L→f∈t→f.name=n.name→NmF L t id n.file f
 | new {k:Nat} {f:FileM}:t[k]? = some f→isThere (allM L) f=false→NmF L t id ⟨id,UInt8.ofNat (newTo L t id k).length⟩ f
theorem NmF.tree(h:NmF L t id v f):f∈t:=by
 cases h with
 | old _ h2 _=>exact h2
 | new h1 _=>exact List.mem_of_getElem? h1
theorem PlIn.nmEd(h:PlIn L t id)(hv:NmF L t id v f):∃ c,EdF L t id v c f.lines:=by
 cases hv with
 | @old n f h1 h2 h3 =>obtain⟨k,hk⟩:=List.getElem?_of_mem h1;have hf:=find_yes h.tree h2 h3;obtain⟨g,g1,g2,g3⟩:=find_file hf;have e:=tree_uniq h.tree g1 h2 (by rw [g2,h3]);subst e;rw [← g3];exact⟨_,.old hk hf⟩
 | @new k f h1 h2=>exact⟨_,.new h1 h2⟩
theorem PlIn.nmInj(h:PlIn L t id){u:VidM}(hu:NmF L t id u f)(hv:NmF L t id v f):u=v:=by
 have hno:∀ {n:NameM},n∈allM L→f.name=n.name→isThere (allM L) f=false→False:=by intro n hn e hc;unfold isThere at hc;rw [List.any_eq_false] at hc;exact hc n hn (by simp [e])
 cases hu with
 | @old n f h1 h2 h3 =>
  cases hv with
  | @old m f g1 g2 g3=>rw [all_uniq h.base.wf h1 g1 (by rw [← h3,g3])]
  | @new k f g1 g2=>exact(hno h1 h3 g2).elim
 | @new k f h1 h2 =>
  generalize hU:(⟨id,UInt8.ofNat (newTo L t id k).length⟩:VidM)=U;cases hv with
  | @old m f g1 g2 g3=>exact(hno g1 g3 h2).elim
  | @new k' f g1 g2 =>
   have:k=k':=by
    have hr:=List.pairwise_iff_getElem.1 (tree_files h.tree).1;obtain⟨l1,e1⟩:=List.getElem?_eq_some_iff.1 h1;obtain⟨l2,e2⟩:=List.getElem?_eq_some_iff.1 g1;rcases Nat.lt_trichotomy k k' with q|q|q
    · have:=hr k k' l1 l2 q;rw [e1,e2,rcB_irrefl] at this;cases this
    · exact q
    · have:=hr k' k l2 l1 q;rw [e1,e2,rcB_irrefl] at this;cases this
   subst this;exact hU.symm
theorem PlIn.fileStays(h:PlIn L t id){n:NameM}(hn:n∈allM L)(hf:¬ findT t n.name<0):∃ x,vertM L n.file=some x∧x.kind=1∧x.dead=false∧hitO (planM L t id) n.file=false:=by
 obtain⟨x,hx,hk,hd⟩:=all_files h.base.wf hn;have e:=vertM_id hx;refine⟨x,hx,hk,hd,?_⟩;cases hc:hitO (planM L t id) n.file with
 | false=>rfl
 | true =>
  obtain⟨m,hm,q⟩:=h.hitOld (x:=x) (by rw [e];exact hx) (by rw [hk];decide) (by rw [e];exact hc);rcases q with⟨q1,q2⟩|⟨q1,_,_⟩
  · obtain⟨i,hi⟩:=List.getElem?_of_mem hm;obtain⟨j,hj⟩:=List.getElem?_of_mem hn;have:=all_inj h.base.wf hi hj (by rw [← q1,e]);subst this;rw [hi] at hj;rw [Option.some.inj hj] at q2;exact absurd q2 hf
  · have:=(names_mem h.base.len).1 q1;rw [hk] at this;exact absurd this.2.1 (by decide)
theorem PlIn.live2(h:PlIn L t id)(hne:planM L t id≠[]):v∈liveF (L++[pgPat id (planM L t id)])↔∃ f,NmF L t id v f:=by
 have hw2:=h.inn.wf2 hne;rw [live_mem (wf_len hw2)];constructor;rotate_left
 ·
  rintro⟨f,hv⟩;cases hv with
  | @old n f h1 h2 h3 =>
   obtain⟨x,hx,hk,hd,hh⟩:=h.fileStays h1 (find_yes h.tree h2 h3);refine⟨updO (planM L t id) x,?_,hk,?_⟩
   · rw [h.inn.vertOld (h.oldFile h1),hx];rfl
   show(x.dead || hitO (planM L t id) x.id)=false;rw [hd,vertM_id hx,hh];rfl
  | @new k f h1 h2 =>have e:=h.newN h1 h2;refine⟨_,h.inn.vertAt hne rfl (o:=pgNewO) ?_ rfl,rfl,rfl⟩;show(planM L t id)[(UInt8.ofNat (newTo L t id k).length).toNat]? = some pgNewO;rw [e];exact PlIn.newEmb (id:=id) h1 h2 0 _ rfl
 rintro⟨x,hx,hk,hd⟩;rcases h.inn.vertCases hne hx with⟨e,y,hy,rfl⟩|⟨e,o,ho,hm,rfl⟩
 ·
  have hd:(y.dead || hitO (planM L t id) y.id)=false:=hd;rw [Bool.or_eq_false_iff] at hd;have hyl:v∈liveF L:=(live_mem h.base.len).2 ⟨y,hy,hk,hd.1⟩;rw [← all_liveF] at hyl;obtain⟨n,hn,rfl⟩:=List.mem_map.1 hyl;have hf:¬ findT t n.name<0:=by intro q;have hm:killOp n.file∈planM L t id:=(by refine kills_plan.subset ?_;unfold killsTo;rw [List.take_length];refine List.mem_flatMap.2 ⟨n,hn,?_⟩;unfold killsN;rw [if_pos q];exact List.mem_singleton.2 rfl);have:hitO (planM L t id) y.id=true:=hit_mem.2 ⟨_,hm,rfl,(vertM_id hy).symm⟩;rw [hd.2] at this;cases this
  obtain⟨f,g1,g2,_⟩:=find_file hf;exact⟨f,.old hn g1 g2⟩
 cases h.case ho with
 | @kill n g1 g2 g3 =>obtain⟨y,_,rfl,_⟩:=h.killed g1 g2;exact absurd hk (show ¬ (5:UInt8)=1 by decide)
 | @name k f _ _ _ g4=>rw [g4] at hk;exact absurd hk (show ¬ (2:UInt8)=1 by decide)
 | @edit F c want j g1 g2 g3 =>
  rcases pg_cases g3 with q|⟨k,t',_,_,q⟩|⟨k,_,q⟩
  · obtain⟨_,_,_,e⟩:=mem_egKill.1 (List.mem_of_getElem? q);rw [e] at hk;exact absurd hk (show ¬ (5:UInt8)=1 by decide)
  · rw [q] at hk;exact absurd hk (show ¬ (3:UInt8)=1 by decide)
  obtain⟨_,_,_,_,_,_,_,_,_,_,e⟩:=mem_pgTies.1 (List.mem_of_getElem? q);rw [e] at hk;exact absurd hk (show ¬ (4:UInt8)=1 by decide)
 | @file k f g1 g2 g3 g4 =>
  have ev:v=⟨id,UInt8.ofNat (newTo L t id k).length⟩:=by rw [← g3,UInt8.ofNat_self,← e]
  rw [ev];exact⟨f,.new g1 g2⟩
theorem PlIn.names2(h:PlIn L t id)(hne:planM L t id≠[])(hv:NmF L t id v f):namesM (L++[pgPat id (planM L t id)]) v≠[]∧∀ x∈namesM (L++[pgPat id (planM L t id)]) v,x.text=f.name:=by
 have hw2:=h.inn.wf2 hne;have hmem:=fun x=>names_mem (wf_len hw2) (f:=v) (x:=x);have hno:∀ {x:VertM} {o:OpM},(planM L t id)[x.id.n.toNat]? = some o→makesB o.kind=true→x=⟨x.id,o.kind,fileOf x.id o,o.text,false⟩→x.id.pid=id→x.kind=2→∃ k g,t[k]? = some g∧isThere (allM L) g=false∧x.id.n.toNat=(newTo L t id k).length+1∧x.file=⟨id,UInt8.ofNat (newTo L t id k).length⟩∧x.text=g.name:=by
  intro x o ho hm hx e hk;have hk2:o.kind=2:=by rw [hx] at hk;exact hk
  have hfl:x.file=o.at':=by rw [hx];show fileOf x.id o=o.at';unfold fileOf;rw [if_neg (by rw [hk2];decide)]
  have htx:x.text=o.text:=by rw [hx]
  cases h.case ho with
  | @kill n g1 g2 g3 =>obtain⟨y,_,rfl,_⟩:=h.killed g1 g2;exact absurd hk2 (show ¬ (5:UInt8)=2 by decide)
  | @file k f _ _ _ g4=>rw [g4] at hk2;exact absurd hk2 (show ¬ (1:UInt8)=2 by decide)
  | @edit F c want j g1 g2 g3 =>
   rcases pg_cases g3 with q|⟨k,t',_,_,q⟩|⟨k,_,q⟩
   · obtain⟨_,_,_,e⟩:=mem_egKill.1 (List.mem_of_getElem? q);rw [e] at hk2;exact absurd hk2 (show ¬ (5:UInt8)=2 by decide)
   · rw [q] at hk2;exact absurd hk2 (show ¬ (3:UInt8)=2 by decide)
   obtain⟨_,_,_,_,_,_,_,_,_,_,e⟩:=mem_pgTies.1 (List.mem_of_getElem? q);rw [e] at hk2;exact absurd hk2 (show ¬ (4:UInt8)=2 by decide)
  | @name k g g1 g2 g3 g4 =>rw [g4] at hfl htx;exact⟨k,g,g1,g2,g3,hfl,htx⟩
 cases hv with
 | @old n f h1 h2 h3 =>
  have hf:=find_yes h.tree h2 h3;have hpid:=h.oldFile h1;constructor
  ·
   obtain⟨x,hx,ht⟩:=name_given h1 (by rw [← h3];exact(tree_name h.tree h2).1);obtain⟨g1,g2,g3,g4⟩:=(names_mem h.base.len).1 hx;have hh:hitO (planM L t id) x.id=false:=by
    cases hc:hitO (planM L t id) x.id with
    | false=>rfl
    | true =>
     obtain⟨m,hm,q⟩:=h.hitOld g1 (by rw [g2];decide) hc;rcases q with⟨q1,_⟩|⟨q1,q2,q3⟩
     · obtain⟨y,hy,hk,_⟩:=all_files h.base.wf hm;rw [← q1,g1] at hy;rw [← Option.some.inj hy,g2] at hk;exact absurd hk (by decide)
     · obtain⟨i,hi⟩:=List.getElem?_of_mem hm;obtain⟨j,hj⟩:=List.getElem?_of_mem h1;have:=all_inj h.base.wf hi hj (by rw [← q3,g3]);subst this;rw [hi] at hj;rw [Option.some.inj hj] at q2;exact absurd ht q2
   have:updO (planM L t id) x∈namesM (L++[pgPat id (planM L t id)]) n.file:=by
    refine(hmem _).2 ⟨?_,g2,g3,?_⟩
    · rw [h.inn.vertOld (show(updO (planM L t id) x).id.pid≠id from(h.base.vert g1).2.2)];show(vertM L x.id).map _=_;rw [g1];rfl
    · show(x.dead || hitO (planM L t id) x.id)=false;rw [g4,hh];rfl
   intro q;rw [q] at this;exact absurd this List.not_mem_nil
  ·
   intro x hx;obtain⟨g1,g2,g3,g4⟩:=(hmem x).1 hx;rcases h.inn.vertCases hne g1 with⟨e,y,hy,hyx⟩|⟨e,o,ho,hm,hxo⟩
   · have hyd:(y.dead || hitO (planM L t id) y.id)=false:=(by rw [← hyx] at g4;exact g4);rw [Bool.or_eq_false_iff] at hyd;have hyi:=vertM_id hy;have hyn:y∈namesM L n.file:=(names_mem h.base.len).2 ⟨by rw [hyi];exact hy,by rw [← hyx] at g2;exact g2,by rw [← hyx] at g3;exact g3,hyd.1⟩;have htx:x.text=y.text:=(by rw [← hyx];rfl);rw [htx,h3];refine Classical.byContradiction fun q => ?_;have hmm:killOp y.id∈planM L t id:=(by refine kills_plan.subset ?_;unfold killsTo;rw [List.take_length];refine List.mem_flatMap.2 ⟨n,h1,?_⟩;unfold killsN;rw [if_neg hf];exact List.mem_map.2 ⟨y,List.mem_filter.2 ⟨hyn,by simp [q]⟩,rfl⟩);have:hitO (planM L t id) y.id=true:=hit_mem.2 ⟨_,hmm,rfl,rfl⟩;rw [hyd.2] at this;cases this
   · obtain⟨k,g,_,_,_,q4,_⟩:=hno ho hm hxo e g2;rw [g3] at q4;exact absurd (congrArg VidM.pid q4) hpid
 | @new k f h1 h2 =>
  have e1:=h.newN h1 h2;have h3:=new_lt (id:=id) h1 h2;have h4:=h.base.few;have e2:(UInt8.ofNat ((newTo L t id k).length+1)).toNat=(newTo L t id k).length+1:=by simp;omega
  have ho:(planM L t id)[(newTo L t id k).length+1]? = some ⟨2,⟨id,UInt8.ofNat (newTo L t id k).length⟩,noVid,f.name⟩:=PlIn.newEmb (id:=id) h1 h2 1 _ rfl;constructor
  · have hv:vertM (L++[pgPat id (planM L t id)]) ⟨id,UInt8.ofNat ((newTo L t id k).length+1)⟩=some ⟨⟨id,UInt8.ofNat ((newTo L t id k).length+1)⟩,2,⟨id,UInt8.ofNat (newTo L t id k).length⟩,f.name,false⟩:=h.inn.vertAt hne (v:=⟨id,UInt8.ofNat ((newTo L t id k).length+1)⟩) (o:=⟨2,⟨id,UInt8.ofNat (newTo L t id k).length⟩,noVid,f.name⟩) rfl (by show(planM L t id)[(UInt8.ofNat ((newTo L t id k).length+1)).toNat]? = _;rw [e2];exact ho) rfl;have:=(hmem ⟨⟨id,UInt8.ofNat ((newTo L t id k).length+1)⟩,2,⟨id,UInt8.ofNat (newTo L t id k).length⟩,f.name,false⟩).2 ⟨hv,rfl,rfl,rfl⟩;intro q;rw [q] at this;exact absurd this List.not_mem_nil
  ·
   intro x hx;obtain⟨g1,g2,g3,g4⟩:=(hmem x).1 hx;rcases h.inn.vertCases hne g1 with⟨e,y,hy,hyx⟩|⟨e,o,ho',hm,hxo⟩
   · exfalso;have hyf:y.file=⟨id,UInt8.ofNat (newTo L t id k).length⟩:=(by rw [← hyx] at g3;exact g3);exact no_file h.base.wf (F:=⟨id,UInt8.ofNat (newTo L t id k).length⟩) h.base.noId hy hyf
   · obtain⟨k',g,q1,q2,_,q4,q5⟩:=hno ho' hm hxo e g2;rw [g3] at q4;have:=h.newOne h1 h2 q1 q2 (congrArg VidM.n q4);subst this;rw [h1] at q1;rw [q5,Option.some.inj q1]
theorem PlIn.settles(h:PlIn L t id)(hne:planM L t id≠[])(id':PidM):planM (L++[pgPat id (planM L t id)]) t id'=[]:=by
 have hw2:=h.inn.wf2 hne;have hown:∀ {v:VidM} {f:FileM},NmF L t id v f→ownN (L++[pgPat id (planM L t id)]) v=f.name:=by
  intro v f hv;obtain⟨h1,h2⟩:=h.names2 hne hv;unfold ownN;cases hn:namesM (L++[pgPat id (planM L t id)]) v with
  | nil=>exact absurd hn h1
  | cons x l=>exact h2 x (by rw [hn];exact List.mem_cons_self ..)
 have hcalm:Calm (L++[pgPat id (planM L t id)]):=by
  refine⟨fun v hv => ?_,fun v hv u hu e => ?_⟩
  · obtain⟨f,hf⟩:=(h.live2 hne).1 hv;rw [hown hf];exact h.names2 hne hf
  obtain⟨f,hf⟩:=(h.live2 hne).1 hv;obtain⟨g,hg⟩:=(h.live2 hne).1 hu;rw [hown hf,hown hg] at e;have:=tree_uniq h.tree hf.tree hg.tree e;subst this;exact h.nmInj hf hg
 have hall:=calm_all hw2 hcalm;have hat:∀ n∈allM (L++[pgPat id (planM L t id)]),∃ f,NmF L t id n.file f∧n.name=f.name:=by intro n hn;rw [hall] at hn;obtain⟨v,hv,rfl⟩:=List.mem_map.1 hn;obtain⟨f,hf⟩:=(h.live2 hne).1 hv;exact⟨f,hf,hown hf⟩
 have hfd:∀ n∈allM (L++[pgPat id (planM L t id)]),¬ findT t n.name<0:=by intro n hn;obtain⟨f,hf,e⟩:=hat n hn;exact find_yes h.tree hf.tree e.symm
 have hK:killsTo (L++[pgPat id (planM L t id)]) t (allM (L++[pgPat id (planM L t id)])).length=[]:=by unfold killsTo;rw [List.take_length,List.flatMap_eq_nil_iff];intro n hn;obtain⟨f,hf,e⟩:=hat n hn;unfold killsN;rw [if_neg (hfd n hn),List.map_eq_nil_iff,List.filter_eq_nil_iff];intro x hx;rw [(h.names2 hne hf).2 x hx,e];simp
 have hE:∀ k,edTo (L++[pgPat id (planM L t id)]) t id' k=[]:=by
  intro k;induction k with
  | zero=>rw [edTo_zero];exact hK
  | succ k ih =>
   rcases Nat.lt_or_ge k (allM (L++[pgPat id (planM L t id)])).length with hk|hk
   ·
    have hn:=List.getElem?_eq_getElem hk;rw [edTo_succ hn,ih];unfold plEdStep;split
    · rfl
    rename_i hf0;rw [List.nil_append];obtain⟨f,hf,e⟩:=hat _ (List.mem_of_getElem? hn);obtain⟨c,hc⟩:=h.nmEd hf;have hb:=((h.fileE hne hc).behind h.inn hne).2.2 id' 0;obtain⟨g,g1,g2,g3⟩:=find_file hf0;have eg:=tree_uniq h.tree g1 hf.tree (by rw [g2,e]);unfold wantT at g3;rw [g3,eg];exact hb
   have:edTo (L++[pgPat id (planM L t id)]) t id' (k+1)=edTo (L++[pgPat id (planM L t id)]) t id' k:=(by unfold edTo;rw [List.take_of_length_le (by omega),List.take_of_length_le hk]);rw [this];exact ih
 have hth:∀ f∈t,isThere (allM (L++[pgPat id (planM L t id)])) f=true:=by
  intro f hf;have hv:∃ v,NmF L t id v f:=by
   cases hc:isThere (allM L) f with
   | true =>unfold isThere at hc;obtain⟨n,hn,e⟩:=List.any_eq_true.1 hc;have e:n.name=f.name:=(by simpa using e);exact⟨n.file,.old hn hf e.symm⟩
   | false =>obtain⟨k,hk⟩:=List.getElem?_of_mem hf;exact⟨_,.new hk hc⟩
  obtain⟨v,hv⟩:=hv;have hl:=(h.live2 hne).2 ⟨f,hv⟩;unfold isThere;rw [List.any_eq_true];refine⟨⟨v,ownN (L++[pgPat id (planM L t id)]) v,[],[]⟩,?_,?_⟩
  · rw [hall];exact List.mem_map.2 ⟨v,hl,rfl⟩
  simp [hown hv]
 have hN:∀ k,newTo (L++[pgPat id (planM L t id)]) t id' k=[]:=by
  intro k;induction k with
  | zero=>rw [newTo_zero];exact hE _
  | succ k ih =>
   rcases Nat.lt_or_ge k t.length with hk|hk
   · have hn:=List.getElem?_eq_getElem hk;rw [newTo_succ hn,ih];unfold newStep;rw [if_pos (hth _ (List.mem_of_getElem? hn))]
   have:newTo (L++[pgPat id (planM L t id)]) t id' (k+1)=newTo (L++[pgPat id (planM L t id)]) t id' k:=(by unfold newTo;rw [List.take_of_length_le (by omega),List.take_of_length_le hk]);rw [this];exact ih
 exact hN _
end
end Go.Proofs.YtjccmcgglfncdaaGreatDoor
namespace Go.Proofs.YtjccmcgglfncdaaGreatDoor
open Go
open Go.RowKit
attribute [local irreducible] linesOps
theorem pfile_any(N gw b:Nat)(id:PidM)(f:FileM)(av lv:Value)(v:Value)(out:List OpM)(wG w:World)(hlv:SRow wG lv f.lines)(hM:wG.heap.size≤gw)(hM2:wG.heap.size≤N)(hbG:Be wG w)(hm:f.lines.length≤1000)(h:WkSt w N gw b id v out)(ho:out.length≤3900000) :
  Calls Tryz.prog 42 #[.pointer (some ⟨gw,0,none⟩),.agg #[.string f.name,av,lv]] w (WkRes N gw b id (out++fileOps id out.length f) w):=by
 have HX:=Lh (arrT_new w [.string f.name,av,lv] 71);have HE:=Lh (bnew (w:=w) (.cells #[.string f.name,av,lv] 71));obtain⟨p,c,rfl⟩:=own_sl h.own;have H1:=Lh (h.over HE.o);have HLv:=Lh (hlv.over (bvo hbG HE.o));have HLg:=Lh hlv;have HBG:=Lh hbG;obtain⟨la,lc,rfl,_,_,_,_⟩:=hlv.form;have hNw:=h.size;have hgN:=h.low;clear h hlv hbG;go_enter Tryz.func42,Tryz.ntmps42;go_upto_region 1 with fail;generalize w.alloc (.cells #[.string f.name,av,.slice la f.lines.length lc] 71)=w0 at *;have g1:=H1.o.box.arr.k 1 rfl;have g2:=H1.o.box.arr.k 2 rfl;have g3:=H1.o.box.arr.k 3 rfl;have sg:=H1.o.box.arr.lt;obtain⟨u,hu⟩:∃ u,UInt8.ofNat out.length=u:=⟨_,rfl⟩;have HVd:Hid (∀ W,Calls Tryz.prog 95 #[.agg (cP id),.int .i64 out.length] W fun e w'=>e=.returned (.agg #[.int .u8 id.author.toNat,.int .u16 id.seq.toNat,.int .u8 u.toNat])∧Be W w'):=Lh fun W=>by have h9:=pvid_any id out.length W (by omega);rw [hu] at h9;exact h9
 have HKS:Hid (∀ w':World,Be w0 w'→(w'.cell? ⟨gw,1,none⟩=some (.int .u8 id.author.toNat)∧w'.cell? ⟨gw,2,none⟩=some (.int .u16 id.seq.toNat)∧w'.cell? ⟨gw,3,none⟩=some (.slice p out.length c)∧Be w0 w')):=Lh fun w' hb=>⟨(hb.cell (p:=⟨gw,1,none⟩) sg).trans g1,(hb.cell (p:=⟨gw,2,none⟩) sg).trans g2,(hb.cell (p:=⟨gw,3,none⟩) sg).trans g3,hb⟩;go_cut [4] (fun s4 wx=>∃ g4,s4=.pointer (some ⟨g4,0,none⟩)∧Hid (ArrT wx g4 74 [.int .u8 id.author.toNat,.int .u16 id.seq.toNat,.int .u8 u.toNat])∧Hid (Be w0 wx))
 case first =>
  go_region_held3 (fun w'=>w'.cell? ⟨gw,1,none⟩=some (.int .u8 id.author.toNat)∧w'.cell? ⟨gw,2,none⟩=some (.int .u16 id.seq.toNat)∧w'.cell? ⟨gw,3,none⟩=some (.slice p out.length c)∧Be w0 w') ((refine HKS.o _ ?_;(with_reducible (first|exact(Below.refl _ _).drew|exact HBk.o|exact HBk.o.alloc HBk.o.size _|exact((Below.refl w0.heap.size w0).alloc (Nat.le_refl _) _).drew|exact(((HBk.o.setCell (p:=⟨w0.heap.size,0,none⟩) (Nat.le_refl _) _).setCell (p:=⟨w0.heap.size,1,none⟩) (Nat.le_refl _) _).setCell (p:=⟨w0.heap.size,2,none⟩) (Nat.le_refl _) _))))) (first|(go_at_call 95;refine(HVd.o _).mono ?_;rintro e w2 ⟨rfl,hb⟩;have HBk:Hid (Be w0 w2):=(by show Be w0 w2;with_reducible (first|exact bov (Below.refl w0.heap.size w0).drew (Nat.le_refl _) hb|exact bov (((Below.refl w0.heap.size w0).alloc (Nat.le_refl _) _).drew) (Below.size (((Below.refl w0.heap.size w0).alloc (Nat.le_refl _) _).drew)) hb));have HBb:=Lh hb;obtain⟨hcc,hff⟩:=bcell hb;clear hb))
  ·
   rename_i J K hJ hK hHeld;clear hHeld;refine hK _ _ (Met.intro (hJ _ _ ?_))
   (repeat apply Exists.intro)
   refine⟨?_,rfl⟩;exact⟨_,rfl,Lh (arrT_new _ [.int .u8 id.author.toNat,.int .u16 id.seq.toNat,.int .u8 u.toNat] _),Lh (HBk.o.alloc HBk.o.size _)⟩
  rename_i J K hJ hK hHeld;clear hHeld;refine hK _ _ (Met.intro (hJ _ _ ?_))
  (repeat apply Exists.intro)
  refine⟨?_,rfl⟩;have HZ:Hid (ArrT w2 w0.heap.size 74 [.int .u8 0,.int .u16 0,.int .u8 0]):=Lh ((show ArrT (w0.alloc (.cells #[.int .u8 0,.int .u16 0,.int .u8 0] 74)).drew w0.heap.size 74 [.int .u8 0,.int .u16 0,.int .u8 0] from arrT_new w0 [.int .u8 0,.int .u16 0,.int .u8 0] 74).over HBb.o);exact⟨_,rfl,Lh (((HZ.o.set 0 (.int .u8 id.author.toNat)).set 1 (.int .u16 id.seq.toNat)).set 2 (.int .u8 u.toNat)),Lh (((HBk.o.setCell (p:=⟨w0.heap.size,0,none⟩) (Nat.le_refl _) (.int .u8 id.author.toNat)).setCell (p:=⟨w0.heap.size,1,none⟩) (Nat.le_refl _) (.int .u16 id.seq.toNat)).setCell (p:=⟨w0.heap.size,2,none⟩) (Nat.le_refl _) (.int .u8 u.toNat))⟩
 obtain⟨g4,rfl,HQ,HBq⟩:=hcut;rename World=>w3;have H3:=Lh (H1.o.over HBq.o);have HX3:=Lh (HX.o.over HBq.o);have HLv3:=Lh (HLv.o.over HBq.o);have HE3:=Lh (bvo HE.o HBq.o);have HU:=Lh hu;clear hu g1 g2 g3 sg HKS HVd;obtain⟨row,hrow⟩:∃ row,row=(Value.slice p out.length c).ownBlock:=⟨_,rfl⟩;have n1:¬ some gw=row:=by rw [hrow];exact H3.o.box.ne H3.o.own (by decide)
 have n2:¬ some w.heap.size=row:=fun e=>by rw [hrow] at e;exact(HX3.o.ne H3.o.own (by decide)) e
 have n3:¬ some g4=row:=fun e=>by rw [hrow] at e;exact(HQ.o.ne H3.o.own (by decide)) e
 have HROW:=Lh hrow;have HOw:=Lh H3.o.own;have hN:out.length+2≤1099511627776:=by omega
 have hB:=H3.o.size;have g3:=H3.o.box.arr.k 3 rfl;have sg:=H3.o.box.arr.lt;obtain⟨x0,sx⟩:=HX3.o.arr.c1;obtain⟨q0,q1,q2,sq⟩:=HQ.o.arr.c3;clear hrow;obtain⟨o2,ho2⟩:∃ o2,o2=out++[⟨1,noVid,noVid,⟨#[]⟩⟩,⟨2,⟨id,u⟩,noVid,f.name⟩]:=⟨_,rfl⟩;have HO2:=Lh ho2;have hl2:o2.length=out.length+2:=by rw [ho2];simp
 clear ho2;go_upto_region 2 with fail;have hcur:World.grownBy w3 w3.drew row:=⟨rfl,rfl,rfl,Nat.le_refl _,fun _ _ _=>rfl⟩;refine wlex (C:=IsKept w3 row) 14 [] (by kernel_rfl) (by kernel_rfl) (isKept_of hcur) ?_;simp only [Tsc,Tz,Dsc,Dz];repeat(first|refine lxq ?_|(refine lxl rfl ?_;go_wp2_with (first|((at_builtin;refine apD slOp rfl _ _ rfl N _ _ (dad _ _ _) 2 _ _ _ HOw.o rfl rfl rfl rfl hN (by decide) hB ?_;intro v9 w9 ho9 hg9);(replace hcur:World.grownBy w3 w9 row:=by rw [HROW.o];exact hg9);(obtain⟨p9,c9,e9⟩:=own_sl (gown_two (x:=⟨1,noVid,noVid,⟨#[]⟩⟩) (y:=⟨2,⟨id,u⟩,noVid,f.name⟩) ho9));have HO9:Hid (GOwn encOp 8 76 w9 N (.slice p9 (out.length+2) c9) o2):=Lh (by(have h8:=gown_two (x:=⟨1,noVid,noVid,⟨#[]⟩⟩) (y:=⟨2,⟨id,u⟩,noVid,f.name⟩) ho9;rw [e9,← HO2.o,hl2] at h8;exact h8));(rw [← HO2.o,hl2] at e9;subst e9);have HG9:=Lh hg9;clear ho9 hg9));refine⟨isKept_of (by first|exact hcur|exact only_alloc hcur _|exact gtr hcur (gsc _ _ _)|exact gtr (gtr hcur (gsc _ _ _)) (gsc _ _ _)),?_⟩))
 refine lxe ?_;have HB9:=Lh (H3.o.box.grown H3.o.own (by decide) HG9.o).arr;have HS9:=Lh (H3.o.push HG9.o HO9.o);have HF9:=Lh (H3.o.fr (v1:=.slice p9 (out.length+2) c9) HG9.o);have HX9:=Lh ((HX3.o.grown H3.o.own (by decide) HG9.o).set_other (a:=⟨gw,3,none⟩) (by show w.heap.size≠gw;omega) (.slice p9 (out.length+2) c9));have HQ9:=Lh ((HQ.o.grown H3.o.own (by decide) HG9.o).set_other (a:=⟨gw,3,none⟩) (HQ.o.ne_type H3.o.box (by decide)) (.slice p9 (out.length+2) c9));have hsw:=HE3.o.size;have HBe:=Lh ((HBG.o.trans (HE3.o.mono HBG.o.size)).trans (HF9.o.below hM hM2 (Nat.le_trans HBG.o.size hsw)));clear g3 sg x0 sx q0 q1 q2 sq hcur n1 n2 n3;have q3:=HB9.o.free 3;have q4:=HB9.o.k 3 rfl;have sq:=HB9.o.lt;go_upto_region 3 with fail;generalize w9.setCell ⟨gw,3,none⟩ (.slice p9 (out.length+2) c9)=wz at *;clear q3 q4 sq;have x2:=HX9.o.arr.k 2 rfl;have sx:=HX9.o.arr.lt;obtain⟨q0,q1,q2,sq⟩:=HQ9.o.arr.c3;go_wp2_with fail;refine(plines_any N gw b id none [] [] ⟨id,u⟩ (.slice la f.lines.length lc) f.lines (.slice p9 (out.length+2) c9) o2 wz (.inr ⟨rfl,rfl,rfl⟩) (by simp) (HLg.o.over HBe.o) hm HS9.o (by omega)).mono ?_;rintro e w11 ⟨rfl,v2,hS2,hF2⟩;have HS2:=Lh hS2;have HF2:=Lh hF2;clear hS2 hF2;go_wp2;go_end0;have he:o2++linesOps [] [] ⟨id,u⟩ id o2.length f.lines=out++fileOps id out.length f:=by unfold fileOps;rw [hl2,HO2.o,HU.o,List.append_assoc];rfl
 exact⟨rfl,v2,by rw [← he];exact HS2.o,((Fr.of_below HE3.o).trans HF9.o).trans HF2.o⟩
end Go.Proofs.YtjccmcgglfncdaaGreatDoor
