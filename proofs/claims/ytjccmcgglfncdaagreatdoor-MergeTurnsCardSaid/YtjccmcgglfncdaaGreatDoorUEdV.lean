/- What is proved: MergeTurns, for every input; of the listed tables the walk needs the powers of ten. -/
import Derived.Test.YtjccmcgglfncdaaGreatDoorUPlD
import Derived.Test.YtjccmcgglfncdaaGreatDoorURcQ
set_option linter.unusedVariables false
set_option linter.unusedSimpArgs false
namespace Go.Proofs.YtjccmcgglfncdaaGreatDoor
open Go Go.RowKit
variable{f:FileM}{want:List ByteArray}{O:List OpM}{n:NameM}{c i j k:Nat}{o:OpM}{F:VidM}
theorem emb_pre{A s:List OpM}(h:A++s <+: O):EmbAt O A.length s:=by intro j o hj;obtain⟨B,rfl⟩:=h;have hl:=(List.getElem?_eq_some_iff.1 hj).1;rw [List.getElem?_append_left (by rw [List.length_append];omega),List.getElem?_append_right (by omega),Nat.add_sub_cancel_left];exact hj
noncomputable def wantT(t:List FileM)(n:NameM):List ByteArray:=(t.getD (findT t n.name).toNat noFile).lines
section
variable {L : List PatchM} {t : List FileM} {id : PidM}
theorem edTo_one(k:Nat):edTo L t id k <+: edTo L t id (k+1):=by
 rcases Nat.lt_or_ge k (allM L).length with hk|hk
 ·
  rw [edTo_succ (List.getElem?_eq_getElem hk)];unfold plEdStep;split
  · exact List.prefix_refl _
  exact List.prefix_append _ _
 have:edTo L t id (k+1)=edTo L t id k:=by unfold edTo;rw [List.take_of_length_le (by omega),List.take_of_length_le hk]
 rw [this];exact List.prefix_refl _
theorem edTo_mono:∀ {m:Nat},k≤m→edTo L t id k <+: edTo L t id m
 | 0,h=>by rw [Nat.le_zero.1 h];exact List.prefix_refl _
 | m+1,h=>by
  rcases Nat.lt_or_ge m k with q|q
  · rw [show k=m+1 by omega];exact List.prefix_refl _
  exact(edTo_mono q).trans (edTo_one m)
theorem newTo_one(k:Nat):newTo L t id k <+: newTo L t id (k+1):=by
 rcases Nat.lt_or_ge k t.length with hk|hk
 ·
  rw [newTo_succ (List.getElem?_eq_getElem hk)];unfold newStep;split
  · exact List.prefix_refl _
  exact List.prefix_append _ _
 have:newTo L t id (k+1)=newTo L t id k:=by unfold newTo;rw [List.take_of_length_le (by omega),List.take_of_length_le hk]
 rw [this];exact List.prefix_refl _
theorem newTo_mono:∀ {m:Nat},k≤m→newTo L t id k <+: newTo L t id m
 | 0,h=>by rw [Nat.le_zero.1 h];exact List.prefix_refl _
 | m+1,h=>by
  rcases Nat.lt_or_ge m k with q|q
  · rw [show k=m+1 by omega];exact List.prefix_refl _
  exact(newTo_mono q).trans (newTo_one m)
theorem newTo_plan(h:k≤t.length):newTo L t id k <+: planM L t id:=newTo_mono h
theorem edTo_plan(h:k≤(allM L).length):edTo L t id k <+: planM L t id:=by
 have h1:edTo L t id k <+: newTo L t id 0:=by rw [newTo_zero];exact edTo_mono h
 exact h1.trans (newTo_plan (Nat.zero_le _))
theorem kills_plan:killsTo L t (allM L).length <+: planM L t id:=by
 have:=edTo_plan (L:=L) (t:=t) (id:=id) (k:=0) (Nat.zero_le _)
 rwa [edTo_zero] at this
inductive EdF (L:List PatchM) (t:List FileM) (id:PidM):VidM→Nat→List ByteArray→Prop
 | old {k:Nat} {n:NameM}:(allM L)[k]? = some n→¬ findT t n.name<0→EdF L t id n.file (edTo L t id k).length (wantT t n)
 | new {k:Nat} {f:FileM}:t[k]? = some f→isThere (allM L) f=false→EdF L t id ⟨id,UInt8.ofNat (newTo L t id k).length⟩ ((newTo L t id k).length+2) f.lines
theorem no_file{L:List PatchM}(hw:WfG L)(hF:hasM L F.pid=false){v:VidM}{x:VertM}(hx:vertM L v=some x):x.file≠F:=by
  intro e;unfold vertM at hx;obtain⟨o,ho,rfl⟩:=Option.map_eq_some_iff.1 hx;unfold vertOp at ho;obtain⟨p,hp,hm⟩:=List.exists_of_findSome?_eq_some ho;unfold madeBy at hm;split at hm
  ·
   rename_i ep;obtain⟨hget,hmk⟩:=Option.filter_eq_some_iff.1 hm;have e:fileOf v o=F:=e;unfold fileOf at e;have hmem:=List.mem_of_getElem? hget;split at e
   · rw [← e,← ep,hasM_of_mem hp] at hF;cases hF
   rename_i h1;have h2:o.kind=2∨o.kind=3:=((makes_iff o.kind).1 hmk).resolve_left h1;have h3:=hw.refs p hp o hmem o.at' (refs_at_mem (h2.elim .inl fun q=>.inr (.inl q)));rw [e,hF] at h3;cases h3
  cases hm
theorem no_lines{L:List PatchM}(hw:WfG L)(hF:hasM L F.pid=false):linesM L F=[]∧relM L F=[]:=by
 have key:∀ v x,vertM L v=some x→x.file≠F:=fun v x hx=>no_file hw hF hx;have h1:linesM L F=[]:=List.eq_nil_iff_forall_not_mem.2 fun x hx=>by obtain⟨g1,_,g3⟩:=(line_is (wf_len hw)).1 hx;exact key _ _ g1 g3
 refine⟨h1,?_⟩;unfold relM;rw [List.map_eq_nil_iff];refine List.eq_nil_iff_forall_not_mem.2 fun e he => ?_;have:=(step_ends hw (wf_len hw) he).1;rw [h1] at this;exact absurd this List.not_mem_nil
theorem new_lt(h:t[k]? = some f)(hi:isThere (allM L) f=false):(newTo L t id k).length+2≤(newTo L t id (k+1)).length∧(newTo L t id (k+1)).length≤(planM L t id).length:=by have hk:=(List.getElem?_eq_some_iff.1 h).1;refine⟨?_,(newTo_plan (by omega)).length_le⟩;rw [newTo_succ h];unfold newStep;rw [hi,if_neg (by decide),List.length_append];unfold fileOps;simp only [List.length_cons];omega
end
structure PlIn (L:List PatchM) (t:List FileM) (id:PidM):Prop where
 base:PgBase L id (planM L t id)
 tree:treeGood t=true
section
variable {L : List PatchM} {t : List FileM} {id : PidM}
theorem PlIn.newN(h:PlIn L t id)(hk:t[k]? = some f)(hi:isThere (allM L) f=false):(UInt8.ofNat (newTo L t id k).length).toNat=(newTo L t id k).length:=by have h1:=new_lt (id:=id) hk hi;have h2:=h.base.few;simp;omega
theorem PlIn.newEmb(hk:t[k]? = some f)(hi:isThere (allM L) f=false):EmbAt (planM L t id) (newTo L t id k).length (fileOps id (newTo L t id k).length f):=by
 have hlt:=(List.getElem?_eq_some_iff.1 hk).1;refine emb_pre ?_;have:=newTo_plan (L:=L) (t:=t) (id:=id) (k:=k+1) (by omega);rw [newTo_succ hk] at this;unfold newStep at this
 rwa [hi,if_neg (by decide)] at this
theorem PlIn.newLines(h:PlIn L t id)(e:F.pid=id):linesM L F=[]∧relM L F=[]:=no_lines h.base.wf (by rw [e];exact h.base.noId)
theorem PlIn.emb(h:PlIn L t id)(he:EdF L t id F c want):EmbAt (planM L t id) c (pgOps (linesM L F) (relM L F) F id c want):=by
 cases he with
 | @old k n h1 h2 =>have hlt:=(List.getElem?_eq_some_iff.1 h1).1;refine emb_pre ?_;have:=edTo_plan (L:=L) (t:=t) (id:=id) (k:=k+1) (by omega);rw [edTo_succ h1] at this;unfold plEdStep at this;rw [if_neg h2,linesOps_eq] at this;exact this
 | @new k f h1 h2 =>intro j o hj;have h3:=h.newLines (F:=⟨id,UInt8.ofNat (newTo L t id k).length⟩) rfl;rw [h3.1,h3.2,← linesOps_eq] at hj;have h4:=PlIn.newEmb (L:=L) (id:=id) h1 h2 (j+2) o (by unfold fileOps;simpa using hj);rw [show(newTo L t id k).length+2+j=(newTo L t id k).length+(j+2) by omega];exact h4
theorem all_files(hw:WfG L)(hn:n∈allM L):∃ x,vertM L n.file=some x∧x.kind=1∧x.dead=false:=by have h:=(unlike_all hw).ok n hn;obtain⟨x,hx,hk⟩:=h.file;refine⟨x,hx,hk,?_⟩;have:=h.alive;unfold deadAt at this;rw [hx] at this;exact this
theorem all_inj(hw:WfG L){m:NameM}(hi:(allM L)[i]? = some m)(hj:(allM L)[j]? = some n)(e:m.file=n.file):i=j:=by
 have hr:=List.pairwise_iff_getElem.1 (unlike_all hw).rises;obtain⟨h1,g1⟩:=List.getElem?_eq_some_iff.1 hi;obtain⟨h2,g2⟩:=List.getElem?_eq_some_iff.1 hj;rcases Nat.lt_trichotomy i j with k|k|k
 · have:=hr i j h1 h2 k;rw [g1,g2,e] at this;omega
 · exact k
 have:=hr j i h2 h1 k;rw [g1,g2,e] at this;omega
theorem all_uniq(hw:WfG L){m:NameM}(hm:m∈allM L)(hn:n∈allM L)(e:m.name=n.name):m=n:=by
 obtain⟨i,hi⟩:=List.getElem?_of_mem hm;obtain⟨j,hj⟩:=List.getElem?_of_mem hn;have hr:=List.pairwise_iff_getElem.1 (unlike_all hw).uniq;obtain⟨h1,g1⟩:=List.getElem?_eq_some_iff.1 hi;obtain⟨h2,g2⟩:=List.getElem?_eq_some_iff.1 hj;rcases Nat.lt_trichotomy i j with k|k|k
 · have:=hr i j h1 h2 k;rw [g1,g2] at this;exact absurd e this
 · subst k;rw [hi] at hj;exact Option.some.inj hj
 have:=hr j i h2 h1 k;rw [g1,g2] at this;exact absurd e.symm this
theorem PlIn.oldFile(h:PlIn L t id)(hn:n∈allM L):n.file.pid≠id:=by obtain⟨x,hx,_⟩:=all_files h.base.wf hn;exact(h.base.vert hx).2.2
theorem PlIn.newOne(h:PlIn L t id){m:Nat}{g:FileM}(hk:t[k]? = some f)(hi:isThere (allM L) f=false)(hm:t[m]? = some g)(hj:isThere (allM L) g=false)(e:UInt8.ofNat (newTo L t id k).length=UInt8.ofNat (newTo L t id m).length):k=m:=by
 have e2:=congrArg UInt8.toNat e;rw [h.newN hk hi,h.newN hm hj] at e2;have key:∀ {a b:Nat} {u:FileM},t[a]? = some u→isThere (allM L) u=false→a<b→(newTo L t id a).length+2≤(newTo L t id b).length:=by intro a b u ha hu hab;have h1:=(new_lt (id:=id) ha hu).1;have h2:=(newTo_mono (L:=L) (t:=t) (id:=id) (show a+1≤b by omega)).length_le;omega
 rcases Nat.lt_trichotomy k m with q|q|q
 · have:=key hk hi q;omega
 · exact q
 have:=key hm hj q;omega
theorem PlIn.edOne(h:PlIn L t id){c':Nat}{want':List ByteArray}(he:EdF L t id F c want)(he':EdF L t id F c' want'):c=c'∧want=want':=by
 generalize hF:F=F' at he';cases he with
 | @old k n h1 h2 =>
  cases he' with
  | @old m n' g1 g2 =>obtain rfl:=all_inj h.base.wf h1 g1 hF;rw [h1] at g1;rw [Option.some.inj g1];exact⟨rfl,rfl⟩
  | @new m f g1 g2=>exact absurd (congrArg VidM.pid hF) (h.oldFile (List.mem_of_getElem? h1))
 | @new k f h1 h2 =>
  cases he' with
  | @old m n' g1 g2=>exact absurd (congrArg VidM.pid hF).symm (h.oldFile (List.mem_of_getElem? g1))
  | @new m f' g1 g2 =>obtain rfl:=h.newOne h1 h2 g1 g2 (congrArg VidM.n hF);rw [h1] at g1;rw [Option.some.inj g1];exact⟨rfl,rfl⟩
inductive PlCase (L:List PatchM) (t:List FileM) (id:PidM) (i:Nat) (o:OpM):Prop
 | kill {n:NameM}:n∈allM L→o∈killsN L t n→(killsTo L t (allM L).length)[i]? = some o→PlCase L t id i o
 | edit {F:VidM} {c:Nat} {want:List ByteArray} {j:Nat}:EdF L t id F c want→i=c+j→(pgOps (linesM L F) (relM L F) F id c want)[j]? = some o→PlCase L t id i o
 | file {k:Nat} {f:FileM}:t[k]? = some f→isThere (allM L) f=false→i=(newTo L t id k).length→o=pgNewO→PlCase L t id i o
 | name {k:Nat} {f:FileM}:t[k]? = some f→isThere (allM L) f=false→i=(newTo L t id k).length+1→o=⟨2,⟨id,UInt8.ofNat (newTo L t id k).length⟩,noVid,f.name⟩→PlCase L t id i o
theorem ed_case:∀(k:Nat),k≤(allM L).length→∀(i:Nat) (o:OpM),(edTo L t id k)[i]? = some o→PlCase L t id i o
 | 0,_,i,o,h=>by rw [edTo_zero] at h;have hm:=List.mem_of_getElem? h;unfold killsTo at hm;obtain⟨n,hn,ho⟩:=List.mem_flatMap.1 hm;exact .kill (List.mem_of_mem_take hn) ho h
 | k+1,hk,i,o,h=>by
  have hn:=List.getElem?_eq_getElem (l:=allM L) (i:=k) (by omega);rw [edTo_succ hn] at h;unfold plEdStep at h;split at h
  · exact ed_case k (by omega) i o h
  rename_i hf
  by_cases hi:i<(edTo L t id k).length
  · rw [List.getElem?_append_left hi] at h;exact ed_case k (by omega) i o h
  rw [List.getElem?_append_right (by omega),linesOps_eq] at h;exact .edit (.old hn hf) (show i=(edTo L t id k).length+(i - (edTo L t id k).length) by omega) h
theorem PlIn.new_case(hp:PlIn L t id):∀(k:Nat),k≤t.length→∀(i:Nat) (o:OpM),(newTo L t id k)[i]? = some o→PlCase L t id i o
 | 0,_,i,o,h=>by rw [newTo_zero] at h;exact ed_case _ (Nat.le_refl _) i o h
 | k+1,hk,i,o,h=>by
  have hn:=List.getElem?_eq_getElem (l:=t) (i:=k) (by omega);rw [newTo_succ hn] at h;unfold newStep at h;split at h
  · exact hp.new_case k (by omega) i o h
  rename_i hf;have hf:isThere (allM L) t[k]=false:=by simpa using hf
  by_cases hi:i<(newTo L t id k).length
  · rw [List.getElem?_append_left hi] at h;exact hp.new_case k (by omega) i o h
  rw [List.getElem?_append_right (by omega)] at h;obtain⟨j,hj⟩:∃ j,i=(newTo L t id k).length+j:=⟨i - (newTo L t id k).length,by omega⟩;rw [show i - (newTo L t id k).length=j by omega] at h;unfold fileOps at h
  match j with
  | 0=>exact .file hn hf (by omega) (Option.some.inj h).symm
  | 1=>exact .name hn hf (by omega) (Option.some.inj h).symm
  | j+2 =>have h:(linesOps [] [] ⟨id,UInt8.ofNat (newTo L t id k).length⟩ id ((newTo L t id k).length+2) t[k].lines)[j]? = some o:=(by simpa using h);have h3:=hp.newLines (F:=⟨id,UInt8.ofNat (newTo L t id k).length⟩) rfl;rw [linesOps_eq] at h;exact .edit (.new hn hf) (show i=(newTo L t id k).length+2+j by omega) (by rw [h3.1,h3.2];exact h)
theorem PlIn.case(h:PlIn L t id)(ho:(planM L t id)[i]? = some o):PlCase L t id i o:=h.new_case t.length (Nat.le_refl _) i o ho
theorem tree_files(h:treeGood t=true):(t.Pairwise fun a b=>ltB a.name b.name=true)∧∀ f∈t,fileOk f=true:=by
 unfold treeGood at h;rw [Bool.and_eq_true] at h;have hat:∀ i (f:FileM),t[i]? = some f→goodAt t i=true:=fun i f hf=>List.all_eq_true.1 h.2 i (List.mem_range.2 (List.getElem?_eq_some_iff.1 hf).1);have hok:∀ f∈t,fileOk f=true:=by intro f hf;obtain⟨i,hi⟩:=List.getElem?_of_mem hf;have:=hat i f hi;unfold goodAt at this;rw [hi] at this;simp only [Bool.and_eq_true] at this;exact this.1
 refine⟨?_,hok⟩;have hstep:∀ i (f g:FileM),t[i]? = some f→t[i+1]? = some g→ltB f.name g.name=true:=by intro i f g hf hg;have:=hat (i+1) g hg;rw [goodAt_succ hg hf,Bool.and_eq_true] at this;exact this.2
 have hall:∀ d i (f g:FileM),t[i]? = some f→t[i+d+1]? = some g→ltB f.name g.name=true:=by
  intro d;induction d with
  | zero=>exact fun i f g hf hg=>hstep i f g hf hg
  | succ d ih =>intro i f g hf hg;have hlt:=(List.getElem?_eq_some_iff.1 hg).1;have hm:=List.getElem?_eq_getElem (l:=t) (i:=i+d+1) (by omega);exact rcB_trans (ih i f _ hf hm) (hstep (i+d+1) _ g hm hg)
 rw [List.pairwise_iff_getElem];intro i j hi hj hij;have hd:i+(j - i - 1)+1=j:=by omega
 exact hall (j - i - 1) i _ _ (List.getElem?_eq_getElem hi) (by rw [hd];exact List.getElem?_eq_getElem hj)
theorem tree_name(h:treeGood t=true)(hf:f∈t):nameOk f.name=true∧f.also=[]∧f.lines.length≤60∧∀ x∈f.lines,lineOk x=true:=by have:=(tree_files h).2 f hf;unfold fileOk at this;simp only [Bool.and_eq_true,decide_eq_true_eq,List.all_eq_true] at this;exact⟨this.1,List.length_eq_zero_iff.1 this.2.1,this.2.2.1,this.2.2.2⟩
theorem tree_uniq(h:treeGood t=true){g:FileM}(hf:f∈t)(hg:g∈t)(e:f.name=g.name):f=g:=by
 obtain⟨i,hi⟩:=List.getElem?_of_mem hf;obtain⟨j,hj⟩:=List.getElem?_of_mem hg;have hr:=List.pairwise_iff_getElem.1 (tree_files h).1;obtain⟨h1,g1⟩:=List.getElem?_eq_some_iff.1 hi;obtain⟨h2,g2⟩:=List.getElem?_eq_some_iff.1 hj;rcases Nat.lt_trichotomy i j with k|k|k
 · have:=hr i j h1 h2 k;rw [g1,g2,e,rcB_irrefl] at this;cases this
 · subst k;rw [hi] at hj;exact Option.some.inj hj
 have:=hr j i h2 h1 k;rw [g1,g2,e,rcB_irrefl] at this;cases this
theorem find_file(h:¬ findT t n.name<0):∃ f∈t,f.name=n.name∧wantT t n=f.lines:=by obtain⟨k,f,h1,h2,h3⟩:=findT_some h;refine⟨f,List.mem_of_getElem? h2,h3,?_⟩;unfold wantT;rw [h1,Int.toNat_natCast,List.getD_eq_getElem?_getD,h2];rfl
theorem find_yes(ht:treeGood t=true){nm:ByteArray}(hf:f∈t)(e:f.name=nm):¬ findT t nm<0:=by obtain⟨k,hk⟩:=List.getElem?_of_mem hf;have:=findT_at (n:=nm) (k:=k) (fun j g hj hg hn=>by have:=tree_uniq ht (List.mem_of_getElem? hg) hf (by rw [hn,e]);subst this;have hr:=List.pairwise_iff_getElem.1 (tree_files ht).1;obtain⟨h1,g1⟩:=List.getElem?_eq_some_iff.1 hg;obtain⟨h2,g2⟩:=List.getElem?_eq_some_iff.1 hk;have:=hr j k h1 h2 hj;rw [g1,g2,rcB_irrefl] at this;cases this) hk e;rw [this];omega
theorem PlIn.edLines(h:PlIn L t id)(he:EdF L t id F c want):∃ f∈t,f.lines=want:=by
 cases he with
 | @old k n h1 h2 =>obtain⟨f,h3,_,h5⟩:=find_file h2;exact⟨f,h3,h5.symm⟩
 | @new k f h1 h2=>exact⟨f,List.mem_of_getElem? h1,rfl⟩
theorem PlIn.edFile(h:PlIn L t id)(he:EdF L t id F c want)(hi:c≤i):FileOkO L id (planM L t id) i F:=by
 cases he with
 | @old k n h1 h2 =>have hn:=List.mem_of_getElem? h1;obtain⟨x,hx,hk,_⟩:=all_files h.base.wf hn;exact⟨fun _=>⟨x,hx,hk⟩,fun e=>absurd e (h.oldFile hn)⟩
 | @new k f h1 h2 =>
  have e:=h.newN h1 h2;refine⟨fun q=>absurd rfl q,fun _=>⟨?_,?_⟩⟩
  · show(UInt8.ofNat (newTo L t id k).length).toNat<i;rw [e];omega
  · show(planM L t id)[(UInt8.ofNat (newTo L t id k).length).toNat]? = some pgNewO;rw [e];exact PlIn.newEmb (id:=id) h1 h2 0 _ rfl
theorem PlIn.edLine(h:PlIn L t id)(he:EdF L t id F c want){v:VidM}(hv:(pgVids (linesM L F) (relM L F) id c want)[j]? = some v)
  (hi:c+(egKill (linesM L F) (relM L F) want).length+(egNew (linesM L F) (relM L F) want).length≤i):LineOkO L id (planM L t id) F i v:=by
 rcases pg_vid hv with⟨x,m,h1,rfl,_⟩|⟨k,tx,z,h1,_,rfl,_⟩
 · obtain⟨g1,g2,g3,g4⟩:=h.base.line h1;exact⟨fun _=>⟨x,g1,g2,g3⟩,fun e=>absurd e g4⟩
 have hc:=(List.getElem?_eq_some_iff.1 h1).1;obtain⟨h2,h3⟩:=h.base.ownN (h.emb he) hc;refine⟨fun q=>absurd rfl q,fun _=>⟨?_,(egNew (linesM L F) (relM L F) want).getD k ⟨#[]⟩,?_⟩⟩
 · show(UInt8.ofNat (c+(egKill (linesM L F) (relM L F) want).length+k)).toNat<i;rw [h2];omega
 show(planM L t id)[(UInt8.ofNat (c+(egKill (linesM L F) (relM L F) want).length+k)).toNat]? = _;rw [h2];exact h3
theorem PlIn.killed(h:PlIn L t id)(hn:n∈allM L)(ho:o∈killsN L t n):∃ x,vertM L x.id=some x∧o=killOp x.id∧((x.id=n.file∧x.kind=1∧findT t n.name<0)∨(x∈namesM L n.file∧x.kind=2∧x.file=n.file∧x.text≠n.name∧¬ findT t n.name<0)):=by
 unfold killsN at ho;split at ho
 · rename_i hf;obtain⟨x,hx,hk,_⟩:=all_files h.base.wf hn;have e:=vertM_id hx;refine⟨x,by rw [e];exact hx,by rw [e];exact List.mem_singleton.1 ho,.inl ⟨e,hk,hf⟩⟩
 rename_i hf;obtain⟨x,hx,rfl⟩:=List.mem_map.1 ho;obtain⟨h1,h2⟩:=List.mem_filter.1 hx;obtain⟨g1,g2,g3,_⟩:=aliveM_at h.base.len (mem_namesM h.base.len h1);exact⟨x,g1,rfl,.inr ⟨h1,g2,g3,by simpa using h2,hf⟩⟩
theorem PlIn.op(h:PlIn L t id)(ho:(planM L t id)[i]? = some o):PgOp L id (planM L t id) i o:=by
 cases h.case ho with
 | @kill n h1 h2 h3 =>obtain⟨x,hx,rfl,_⟩:=h.killed h1 h2;exact .kill hx
 | @file k f h1 h2 h3 h4=>rw [h4];exact .file
 | @name k f h1 h2 h3 h4 =>
  have e:=h.newN h1 h2;rw [h4];refine .name ⟨fun q=>absurd rfl q,fun _=>⟨?_,?_⟩⟩ (tree_name h.tree (List.mem_of_getElem? h1)).1
  · show(UInt8.ofNat (newTo L t id k).length).toNat<i;rw [e];omega
  · show(planM L t id)[(UInt8.ofNat (newTo L t id k).length).toNat]? = some pgNewO;rw [e];exact PlIn.newEmb (id:=id) h1 h2 0 _ rfl
 | @edit F c want j he hi hj =>
  rcases pg_cases hj with h1|⟨k,tx,h1,h2,rfl⟩|⟨k,h1,h2⟩
  · obtain⟨a,h2,h3,rfl⟩:=mem_egKill.1 (List.mem_of_getElem? h1);have ha:=List.getElem?_eq_getElem (aliveX_lt h2);rw [getD_of ha];exact .kill (h.base.line ha).1
  · refine .line (h.edFile he (by omega)) ?_;obtain⟨x,hx,rfl⟩:=negT_in _ _ (List.mem_of_getElem? h2);obtain⟨f,hf,rfl⟩:=h.edLines he;exact(tree_name h.tree hf).2.2.2 _ (List.of_mem_zip (a:=x.1) (b:=x.2) hx).2
  · obtain⟨m,x,y,u,v,g1,g2,g3,g4,g5,rfl⟩:=mem_pgTies.1 (List.mem_of_getElem? h2);refine .tie (f:=F) (h.edLine he g3 (by omega)) (h.edLine he g4 (by omega)) (fun e => ?_);subst e;exact h.base.vidsOne (h.emb he) g3 g4 (by omega)
theorem PgBase.killOne(h:PgBase L id O)(f:VidM)(want:List ByteArray):(egKill (linesM L f) (relM L f) want).Nodup:=by
 unfold egKill killsE List.Nodup;rw [List.pairwise_map];have hn:(aliveX (linesM L f) (relM L f)).Nodup:=by unfold aliveX;exact(order_nodup _ _).filter _
 refine(List.Pairwise.filter _ hn).imp_of_mem ?_;intro a b ha hb hab e;have ha:=aliveX_lt (List.mem_filter.1 ha).1;have hb:=aliveX_lt (List.mem_filter.1 hb).1;have ea:=List.getElem?_eq_getElem ha;have eb:=List.getElem?_eq_getElem hb;rw [getD_of ea,getD_of eb] at e;exact hab (lines_inj h.len ea eb (congrArg OpM.at' e))
theorem PgBase.tiesOne{f:VidM}(h:PgBase L id O)(hE:EmbAt O c (pgOps (linesM L f) (relM L f) f id c want)):(pgTies (linesM L f) (relM L f) id c want).Nodup:=by
 have hvl:=pgVids_len (l:=linesM L f) (R:=relM L f) (want:=want) (id:=id) (c:=c);unfold pgTies List.Nodup;rw [List.pairwise_flatMap];refine⟨fun j _ => ?_,?_⟩
 ·
  unfold edgesE;split
  · exact List.pairwise_singleton _ _
  exact List.Pairwise.nil
 refine(List.pairwise_lt_range (n:=want.length)).imp_of_mem ?_;intro a b ha hb hab x hx y hy e;have hb:=List.mem_range.1 hb;unfold edgesE at hx hy;split at hx
 ·
  rename_i ca;split at hy
  · have hx:=List.mem_singleton.1 hx;have hy:=List.mem_singleton.1 hy;rw [hx,hy] at e;have e1:=congrArg OpM.to e;simp only at e1;have g1:(pgVids (linesM L f) (relM L f) id c want)[a]? = some ((pgVids (linesM L f) (relM L f) id c want).getD a noVid):=(by rw [List.getD_eq_getElem?_getD,List.getElem?_eq_getElem (by omega)];rfl);have g2:(pgVids (linesM L f) (relM L f) id c want)[b]? = some ((pgVids (linesM L f) (relM L f) id c want).getD b noVid):=(by rw [List.getD_eq_getElem?_getD,List.getElem?_eq_getElem (by omega)];rfl);rw [← e1] at g2;exact h.vidsOne hE g1 g2 hab
  exact absurd hy List.not_mem_nil
 exact absurd hx List.not_mem_nil
theorem PlIn.killsOne(h:PlIn L t id):(killsTo L t (allM L).length).Nodup:=by
 unfold killsTo List.Nodup;rw [List.take_length,List.pairwise_flatMap];refine⟨fun n hn => ?_,?_⟩
 ·
  unfold killsN;split
  · exact List.pairwise_singleton _ _
  rw [List.pairwise_map];have hr:(namesM L n.file).Pairwise fun a b=>a.id≠b.id:=by
   have h1:((namesM L n.file).map (·.id)).Nodup:=by have e:(namesM L n.file).map (·.id)=setS revK ((aliveM L n.file).map (·.id)):=(by unfold namesM;rw [List.map_map];refine(List.map_congr_left fun v hv => ?_).trans (List.map_id _);rw [mem_setS revK_inj] at hv;obtain⟨y,hy,rfl⟩:=List.mem_map.1 hv;show((vertM L y.id).getD noVert).id=y.id;rw [(aliveM_at h.base.len hy).1];rfl);rw [e];have:=rises_setS revK_inj ((aliveM L n.file).map (·.id));unfold Rises at this;unfold List.Nodup;exact this.imp fun hab e=>by rw [e] at hab;omega
   unfold List.Nodup at h1
   rwa [List.pairwise_map] at h1
  exact(hr.filter _).imp fun hab e=>hab (congrArg OpM.at' e)
 refine(unlike_all h.base.wf).rises.imp_of_mem ?_;intro m n hm hn hmn x hx y hy e;have hne:m.file≠n.file:=fun q=>by rw [q] at hmn;omega
 obtain⟨a,ha,rfl,ca⟩:=h.killed hm hx;obtain⟨b,hb,rfl,cb⟩:=h.killed hn hy;have e:a.id=b.id:=congrArg OpM.at' e;rw [e,hb] at ha;have e2:=Option.some.inj ha;subst e2;rcases ca with⟨a1,a2,_⟩|⟨_,a2,a3,_⟩ <;> rcases cb with⟨b1,b2,_⟩|⟨_,b2,b3,_⟩
 · exact hne (by rw [← a1,b1])
 · rw [a2] at b2;exact absurd b2 (by decide)
 · rw [a2] at b2;exact absurd b2 (by decide)
 exact hne (by rw [← a3,b3])
theorem line_file{F' u:VidM}{i':Nat}(h:LineOkO L id O F i u)(h':LineOkO L id O F' i' u):F=F':=by
 by_cases e:u.pid=id
 · obtain⟨_,t1,g1⟩:=h.2 e;obtain⟨_,t2,g2⟩:=h'.2 e;rw [g1] at g2;exact congrArg OpM.at' (Option.some.inj g2)
 obtain⟨x,g1,_,g3⟩:=h.1 e;obtain⟨y,k1,_,k3⟩:=h'.1 e;rw [g1] at k1;rw [← g3,← k3,Option.some.inj k1]
theorem PlIn.big(h:PlIn L t id)(he:EdF L t id F c want)(hj:(pgOps (linesM L F) (relM L F) F id c want)[j]? = some o)(h4:4≤o.kind.toNat) :
  ((egKill (linesM L F) (relM L F) want)[j]? = some o∧∃ x,vertM L x.id=some x∧x.kind=3∧x.file=F∧o=killOp x.id) ∨
  (∃ m,j=(egKill (linesM L F) (relM L F) want).length+(egNew (linesM L F) (relM L F) want).length+m∧(pgTies (linesM L F) (relM L F) id c want)[m]? = some o∧o.kind=4∧LineOkO L id (planM L t id) F (c+j) o.at'):=by
 rcases pg_cases hj with h1|⟨k,tx,h1,h2,rfl⟩|⟨k,h1,h2⟩
 · obtain⟨a,h2,h3,e⟩:=mem_egKill.1 (List.mem_of_getElem? h1);have ha:=List.getElem?_eq_getElem (aliveX_lt h2);rw [getD_of ha] at e;obtain⟨g1,g2,g3,_⟩:=h.base.line ha;exact .inl ⟨h1,_,g1,g2,g3,e⟩
 · exact absurd h4 (show ¬ 4≤(3:UInt8).toNat by decide)
 obtain⟨m,x,y,u,v,g1,g2,g3,g4,g5,e⟩:=mem_pgTies.1 (List.mem_of_getElem? h2);refine .inr ⟨k,h1,h2,by rw [e],?_⟩;rw [e];exact h.edLine he g3 (by omega)
theorem PlIn.one(h:PlIn L t id)(hi:(planM L t id)[i]? = some o)(hk:(planM L t id)[k]? = some o)(h4:4≤o.kind.toNat):i=k:=by
 have hsmall:∀ {m:Nat} {f:FileM},o=pgNewO∨o=(⟨2,⟨id,UInt8.ofNat (newTo L t id m).length⟩,noVid,f.name⟩:OpM)→False:=by
  intro m f e;rcases e with e|e
  · rw [e] at h4;exact absurd h4 (show ¬ 4≤(1:UInt8).toNat by decide)
  rw [e] at h4;exact absurd h4 (show ¬ 4≤(2:UInt8).toNat by decide)
 have hKE:∀ {n:NameM} {F:VidM} {c:Nat} {want:List ByteArray} {j:Nat},n∈allM L→o∈killsN L t n→EdF L t id F c want→(pgOps (linesM L F) (relM L F) F id c want)[j]? = some o→False:=by
  intro n F c want j hn ho he hj;obtain⟨x,hx,rfl,cx⟩:=h.killed hn ho;rcases h.big he hj h4 with⟨_,y,hy,ky,_,e⟩|⟨_,_,_,e,_⟩
  ·
   have e:x.id=y.id:=congrArg OpM.at' e;rw [e,hy] at hx;have e2:=Option.some.inj hx;subst e2;rcases cx with⟨_,a2,_⟩|⟨_,a2,_⟩
   · rw [a2] at ky;exact absurd ky (by decide)
   rw [a2] at ky;exact absurd ky (by decide)
  exact absurd e (show ¬ (5:UInt8)=4 by decide)
 cases h.case hi with
 | @kill n h1 h2 h3 =>
  cases h.case hk with
  | @kill n' g1 g2 g3=>exact nodup_at' h.killsOne h3 g3
  | @edit F c want j g1 g2 g3=>exact(hKE h1 h2 g1 g3).elim
  | @file m f _ _ _ g4=>exact(hsmall (m:=m) (f:=f) (.inl g4)).elim
  | @name m f _ _ _ g4=>exact(hsmall (.inr g4)).elim
 | @edit F c want j h1 h2 h3 =>
  cases h.case hk with
  | @kill n' g1 g2 g3=>exact(hKE g1 g2 h1 h3).elim
  | @file m f _ _ _ g4=>exact(hsmall (m:=m) (f:=f) (.inl g4)).elim
  | @name m f _ _ _ g4=>exact(hsmall (.inr g4)).elim
  | @edit F' c' want' j' g1 g2 g3 =>
   rcases h.big h1 h3 h4 with⟨a1,x,a2,a3,a4,a5⟩|⟨m,a1,a2,a3,a4⟩
   ·
    rcases h.big g1 g3 h4 with⟨b1,y,b2,b3,b4,b5⟩|⟨m',b1,b2,b3,b4⟩
    · have e:x.id=y.id:=congrArg OpM.at' (a5.symm.trans b5);rw [e,b2] at a2;have e2:=Option.some.inj a2;subst e2;have eF:F=F':=a4.symm.trans b4;subst eF;obtain⟨rfl,rfl⟩:=h.edOne h1 g1;have:=nodup_at' (h.base.killOne F want) a1 b1;omega
    · rw [a5] at b3;exact absurd b3 (show ¬ (5:UInt8)=4 by decide)
   ·
    rcases h.big g1 g3 h4 with⟨b1,y,b2,b3,b4,b5⟩|⟨m',b1,b2,b3,b4⟩
    · rw [b5] at a3;exact absurd a3 (show ¬ (5:UInt8)=4 by decide)
    · have eF:F=F':=line_file a4 b4;subst eF;obtain⟨rfl,rfl⟩:=h.edOne h1 g1;have:=nodup_at' (h.base.tiesOne (h.emb h1)) a2 b2;omega
 | @file m f _ _ _ g4=>exact(hsmall (m:=m) (f:=f) (.inl g4)).elim
 | @name m f _ _ _ g4=>exact(hsmall (.inr g4)).elim
theorem PlIn.inn(h:PlIn L t id):PgIn L id (planM L t id):=⟨h.base,fun i o ho=>h.op ho,fun i k o hi hk h4=>h.one hi hk h4⟩
theorem PlIn.fileE(h:PlIn L t id)(hne:planM L t id≠[])(he:EdF L t id F c want):PgF L id (planM L t id) F c want:=by
 refine⟨h.emb he,fun i tx ho => ?_,fun x hx hh => ?_,fun o ho hk hf => ?_⟩
 ·
  cases h.case ho with
  | @kill n h1 h2 h3 =>obtain⟨x,_,e,_⟩:=h.killed h1 h2;exact absurd (congrArg OpM.kind e) (show ¬ (3:UInt8)=5 by decide)
  | @file k f _ _ _ g4=>exact absurd (congrArg OpM.kind g4) (show ¬ (3:UInt8)=1 by decide)
  | @name k f _ _ _ g4=>exact absurd (congrArg OpM.kind g4) (show ¬ (3:UInt8)=2 by decide)
  | @edit F' c' want' j g1 g2 g3 =>
   have eF:F'=F:=by
    rcases pg_cases g3 with q|⟨k,t',_,_,q⟩|⟨k,_,q⟩
    · obtain⟨_,_,_,e⟩:=mem_egKill.1 (List.mem_of_getElem? q);exact absurd (congrArg OpM.kind e) (show ¬ (3:UInt8)=5 by decide)
    · exact(congrArg OpM.at' q).symm
    obtain⟨_,_,_,_,_,_,_,_,_,_,e⟩:=mem_pgTies.1 (List.mem_of_getElem? q);exact absurd (congrArg OpM.kind e) (show ¬ (3:UInt8)=4 by decide)
   subst eF;obtain⟨rfl,rfl⟩:=h.edOne he g1;exact⟨j,g2,g3⟩
 ·
  obtain⟨hx1,hx2,hx3⟩:=(line_is h.base.len).1 hx;unfold hitO at hh;obtain⟨o,ho,h1⟩:=List.any_eq_true.1 hh;simp only [Bool.and_eq_true,decide_eq_true_eq] at h1;obtain⟨i,hi⟩:=List.getElem?_of_mem ho;cases h.case hi with
  | @kill n g1 g2 g3 =>
   obtain⟨y,hy,rfl,cy⟩:=h.killed g1 g2;have e:y.id=x.id:=h1.2;rw [e,hx1] at hy;have e2:=Option.some.inj hy;subst e2;rcases cy with⟨_,a2,_⟩|⟨_,a2,_⟩
   · rw [a2] at hx2;exact absurd hx2 (by decide)
   rw [a2] at hx2;exact absurd hx2 (by decide)
  | @file k f _ _ _ g4=>rw [g4] at h1;exact absurd h1.1 (show ¬ (1:UInt8)=5 by decide)
  | @name k f _ _ _ g4=>rw [g4] at h1;exact absurd h1.1 (show ¬ (2:UInt8)=5 by decide)
  | @edit F' c' want' j g1 g2 g3 =>
   rcases h.big g1 g3 (by rw [h1.1];decide) with⟨b1,y,b2,b3,b4,b5⟩|⟨m',b1,b2,b3,b4⟩
   · have e:y.id=x.id:=(by rw [← h1.2,b5];rfl);rw [e,hx1] at b2;have e2:=Option.some.inj b2;subst e2;have eF:F=F':=hx3.symm.trans b4;subst eF;obtain⟨rfl,rfl⟩:=h.edOne he g1;exact⟨o,List.mem_of_getElem? b1,h1.2⟩
   rw [b3] at h1;exact absurd h1.1 (by decide)
 obtain⟨i,hi⟩:=List.getElem?_of_mem ho;cases h.case hi with
 | @kill n g1 g2 g3 =>obtain⟨y,hy,rfl,cy⟩:=h.killed g1 g2;exact absurd hk (show ¬ (5:UInt8)=4 by decide)
 | @file k f _ _ _ g4=>rw [g4] at hk;exact absurd hk (show ¬ (1:UInt8)=4 by decide)
 | @name k f _ _ _ g4=>rw [g4] at hk;exact absurd hk (show ¬ (2:UInt8)=4 by decide)
 | @edit F' c' want' j g1 g2 g3 =>
  rcases h.big g1 g3 (by rw [hk];decide) with⟨b1,y,b2,b3,b4,b5⟩|⟨m',b1,b2,b3,b4⟩
  · rw [b5] at hk;exact absurd hk (show ¬ (5:UInt8)=4 by decide)
  have eF:F'=F:=by
   rw [← hf];unfold fileAt
   by_cases e:o.at'.pid=id
   · obtain⟨_,tx,hx⟩:=b4.2 e;rw [h.inn.vertAt hne e hx rfl];rfl
   obtain⟨x,hx,_,hxf⟩:=b4.1 e;rw [h.inn.vertOld e,hx];exact hxf.symm
  subst eF;obtain⟨rfl,rfl⟩:=h.edOne he g1;exact List.mem_of_getElem? b2
end
end Go.Proofs.YtjccmcgglfncdaaGreatDoor
namespace Go.Proofs.YtjccmcgglfncdaaGreatDoor
open Go Go.RowKit
variable{f:FileM}{L:List PatchM}{v:VidM}
def ownN(L:List PatchM)(v:VidM):ByteArray:=((namesM L v).headD noVert).text
def liveF(L:List PatchM):List VidM:=(filesM L).filter fun v => !deadAt L v
structure Calm (L:List PatchM):Prop where
 one:∀ v∈liveF L,namesM L v≠[]∧∀ x∈namesM L v,x.text=ownN L v
 inj:∀ v∈liveF L,∀ u∈liveF L,ownN L v=ownN L u→v=u
theorem also_nil{l:List VertM}{s:ByteArray}(h:∀ x∈l,x.text=s):alsoM l s=[]:=by
 have h1:othersM l s=[]:=by unfold othersM;rw [List.map_eq_nil_iff,List.filter_eq_nil_iff];intro x hx;simp [h x hx]
 unfold alsoM;rw [h1,List.mergeSort_nil];rfl
theorem calm_to(hw:WfG L)(h:Calm L):∀ k,(allTo L k).1=(((filesM L).take k).filter fun v => !deadAt L v).map (fun v=>(⟨v,ownN L v,[],[]⟩:NameM))∧∀ u,0<(allTo L k).2 u→∃ v∈(filesM L).take k,deadAt L v=false∧ownN L v=u
 | 0=>⟨rfl,fun u hu=>absurd hu (Nat.lt_irrefl _)⟩
 | k+1=>by
  obtain⟨ih1,ih2⟩:=calm_to hw h k;rcases Nat.lt_or_ge k (filesM L).length with hk|hk
  rotate_left
  · have:allTo L (k+1)=allTo L k:=(by unfold allTo;rw [List.take_of_length_le (by omega),List.take_of_length_le hk]);rw [this,List.take_of_length_le (by omega)];rw [List.take_of_length_le hk] at ih1 ih2;exact⟨ih1,ih2⟩
  have hf:=List.getElem?_eq_getElem hk;rw [allTo_succ hf,take_one hf];generalize hF:(filesM L)[k]=f at hf ⊢;unfold stepN
  by_cases hd:deadAt L f=true
  ·
   rw [if_pos hd];refine⟨?_,fun u hu => ?_⟩
   · rw [List.filter_append,ih1];simp [hd]
   obtain⟨v,h1,h2⟩:=ih2 u hu;exact⟨v,List.mem_append_left _ h1,h2⟩
  rw [if_neg hd];have hd:deadAt L f=false:=by simpa using hd
  have hm:f∈liveF L:=by unfold liveF;exact List.mem_filter.2 ⟨List.mem_of_getElem? hf,by rw [hd];rfl⟩
  obtain⟨h1,h2⟩:=h.one f hm;have hown:∀ x l,namesM L f=x :: l→x.text=ownN L f:=fun x l e=>h2 x (by rw [e];exact List.mem_cons_self ..);have hz:(allTo L k).2 (ownN L f)=0:=by
   refine Classical.byContradiction fun q => ?_;obtain⟨v,g1,g2,g3⟩:=ih2 (ownN L f) (Nat.pos_of_ne_zero q);have hv:v∈liveF L:=(by unfold liveF;exact List.mem_filter.2 ⟨List.mem_of_mem_take g1,by rw [g2];rfl⟩);have e:=h.inj v hv f hm g3;subst e;obtain⟨j,hj⟩:=List.getElem?_of_mem g1;rw [List.getElem?_take] at hj;split at hj
   · have hr:=List.pairwise_iff_getElem.1 (filesM_rises (wf_len hw));obtain⟨l1,e1⟩:=List.getElem?_eq_some_iff.1 hj;obtain⟨l2,e2⟩:=List.getElem?_eq_some_iff.1 hf;have:=hr j k l1 l2 (by omega);rw [e1,e2] at this;omega
   cases hj
  cases hn:namesM L f with
  | nil=>exact absurd hn h1
  | cons x l =>
   have hx:=hown x l hn;have hal:alsoM (x :: l) x.text=[]:=also_nil fun y hy=>by rw [hx];exact h2 y (by rw [hn];exact hy)
   refine⟨?_,fun u hu => ?_⟩
   · rw [List.filter_append,List.map_append];show(allTo L k).1++[nameOne L (allTo L k).2 f (x :: l)]=_;rw [ih1];congr 1;simp only [nameOne];rw [hal,hx,hz];simp [hd]
   show _;have hu:0<bumpT (allTo L k).2 x.text u:=hu;unfold bumpT at hu;split at hu
   · rename_i e;exact⟨f,List.mem_append_right _ (List.mem_singleton.2 rfl),hd,by rw [e,hx]⟩
   obtain⟨v,g1,g2⟩:=ih2 u hu;exact⟨v,List.mem_append_left _ g1,g2⟩
theorem calm_all(hw:WfG L)(h:Calm L):allM L=(liveF L).map fun v=>(⟨v,ownN L v,[],[]⟩:NameM):=by have:=(calm_to hw h (filesM L).length).1;rw [List.take_length] at this;exact this
theorem names_mem(hl:∀ p∈L,p.ops.length≤200){f:VidM}{x:VertM}:x∈namesM L f↔vertM L x.id=some x∧x.kind=2∧x.file=f∧x.dead=false:=by
 constructor
 · exact fun h=>aliveM_at hl (mem_namesM hl h)
 rintro⟨h1,h2,h3,h4⟩;have hm:x∈aliveM L f:=by
  unfold aliveM ofM;refine List.mem_filter.2 ⟨List.mem_filter.2 ⟨(mem_vertsM hl x).2 h1,?_⟩,?_⟩
  · simp [h2,h3]
  rw [h4];rfl
 unfold namesM;refine List.mem_map.2 ⟨x.id,(mem_setS revK_inj _ _).2 (List.mem_map.2 ⟨x,hm,rfl⟩),?_⟩;rw [h1];rfl
theorem live_mem(hl:∀ p∈L,p.ops.length≤200):v∈liveF L↔∃ x,vertM L v=some x∧x.kind=1∧x.dead=false:=by
 unfold liveF filesM;rw [List.mem_filter,List.mem_map];constructor
 · rintro⟨⟨x,hx,rfl⟩,hd⟩;obtain⟨h1,h2⟩:=List.mem_filter.1 hx;have h3:=(mem_vertsM hl x).1 h1;refine⟨x,h3,by simpa using h2,?_⟩;unfold deadAt at hd;rw [h3] at hd;simpa using hd
 rintro⟨x,hx,hk,hd⟩;have e:=vertM_id hx;refine⟨⟨x,List.mem_filter.2 ⟨(mem_vertsM hl x).2 (by rw [e];exact hx),by simp [hk]⟩,e⟩,?_⟩;unfold deadAt;rw [hx];show(!x.dead)=true;rw [hd];rfl
theorem all_live:∀ k,((allTo L k).1.map (·.file))=((filesM L).take k).filter fun v => !deadAt L v
 | 0=>rfl
 | k+1=>by
  have ih:((allTo L k).1.map (·.file))=((filesM L).take k).filter fun v => !deadAt L v:=all_live k;rcases Nat.lt_or_ge k (filesM L).length with hk|hk
  ·
   have hf:=List.getElem?_eq_getElem hk;rw [allTo_succ hf,take_one hf];unfold stepN
   by_cases hd:deadAt L (filesM L)[k]=true
   · rw [if_pos hd,ih,List.filter_append];simp [hd]
   rw [if_neg hd,List.map_append,ih,List.filter_append];have hd:deadAt L (filesM L)[k]=false:=(by simpa using hd);congr 1;simp only [hd,List.map_cons,List.map_nil];cases namesM L (filesM L)[k] <;> simp [nameOne,hd]
  have:allTo L (k+1)=allTo L k:=by unfold allTo;rw [List.take_of_length_le (by omega),List.take_of_length_le hk]
  rw [this,List.take_of_length_le (by omega),ih,List.take_of_length_le hk]
theorem all_liveF(L:List PatchM):(allM L).map (·.file)=liveF L:=by have:=all_live (L:=L) (filesM L).length;rw [List.take_length] at this;exact this
theorem name_given{n:NameM}(hn:n∈allM L)(hok:nameOk n.name=true):∃ x∈namesM L n.file,x.text=n.name:=by
 obtain⟨c,f,rfl⟩:=all_names n hn;cases hl:namesM L f with
 | nil =>rw [hl] at hok;have:nameOk (tilde++textB f)=true:=hok;rw [tilde_bad0] at this;cases this
 | cons x l =>
  rw [hl] at hok;have hf:(nameOne L c f (x :: l)).file=f:=rfl;rw [hf,hl];refine⟨x,List.mem_cons_self ..,?_⟩;simp only [nameOne] at hok ⊢
  by_cases h1:1<c x.text+1
  · rw [if_pos h1,tilde_bad] at hok;cases hok
  · rw [if_neg h1]
section
variable {L : List PatchM} {t : List FileM} {id : PidM}
theorem plan_nil(hw:WfG L)(ht:treeGood t=true)(h:planM L t id=[]):IsTree L t∧cleanM L=true:=by
 have hK:killsTo L t (allM L).length=[]:=List.prefix_nil.1 (h▸kills_plan);have hE:∀ k,k≤(allM L).length→edTo L t id k=[]:=fun k hk=>List.prefix_nil.1 (h▸edTo_plan hk);have hN:∀ k,k≤t.length→newTo L t id k=[]:=fun k hk=>List.prefix_nil.1 (h▸newTo_plan hk);have hkn:∀ n∈allM L,killsN L t n=[]:=by intro n hn;unfold killsTo at hK;rw [List.take_length,List.flatMap_eq_nil_iff] at hK;exact hK n hn
 have hfd:∀ n∈allM L,¬ findT t n.name<0:=by intro n hn q;have:=hkn n hn;unfold killsN at this;rw [if_pos q] at this;cases this
 have htx:∀ n∈allM L,∀ x∈namesM L n.file,x.text=n.name:=by intro n hn x hx;have:=hkn n hn;unfold killsN at this;rw [if_neg (hfd n hn),List.map_eq_nil_iff,List.filter_eq_nil_iff] at this;simpa using this x hx
 have hln:∀ n∈allM L,lnSeen (linesM L n.file) (relM L n.file)=wantT t n∧lnOdd (linesM L n.file) (relM L n.file)=0:=by intro n hn;obtain⟨k,hk⟩:=List.getElem?_of_mem hn;have hlt:=(List.getElem?_eq_some_iff.1 hk).1;have h1:=hE (k+1) (by omega);rw [edTo_succ hk,hE k (by omega)] at h1;unfold plEdStep at h1;rw [if_neg (hfd n hn),List.nil_append] at h1;exact eg_still hw h1
 have hth:∀ f∈t,isThere (allM L) f=true:=by
  intro f hf;obtain⟨k,hk⟩:=List.getElem?_of_mem hf;have hlt:=(List.getElem?_eq_some_iff.1 hk).1;cases hc:isThere (allM L) f with
  | true=>rfl
  | false =>have h1:=(new_lt (id:=id) hk hc).1;rw [hN (k+1) (by omega)] at h1;simp at h1
 have hone:∀ n∈allM L,n.flaws=[]∧n.also=[]:=by
  intro n hn;obtain⟨f,hf,hfn,_⟩:=find_file (hfd n hn);have hok:=(tree_name ht hf).1;rw [hfn] at hok;have ht2:=htx n hn;have hnf:=name_clean hw;obtain⟨c,v,rfl⟩:=all_names n hn;have hal:(nameOne L c v (namesM L v)).also=[]:=by
   have e:(nameOne L c v (namesM L v)).file=v:=by cases namesM L v <;> rfl
   rw [e] at ht2;cases hl:namesM L v with
   | nil=>rfl
   | cons x l =>rw [hl] at ht2;have hx:=ht2 x (List.mem_cons_self ..);show alsoM (x :: l) x.text=[];rw [hx];exact also_nil ht2
  have:=hnf c v (namesM L v) (fun x hx=>name_ok hw hx);rw [hok,hal] at this;exact⟨of_decide_eq_true (by rw [this];rfl),hal⟩
 have hfile:∀ n∈allM L,fileT L n∈t:=by
  intro n hn;obtain⟨f,hf,hfn,hw'⟩:=find_file (hfd n hn);have:fileT L n=f:=by
   unfold fileT;rw [(hone n hn).2,(hln n hn).1,hw',← hfn];have:=(tree_name ht hf).2.1;cases f
   simp at this ⊢;exact this
  rw [this];exact hf
 have hrise:=(tree_files ht).1;refine⟨⟨?_,hrise⟩,?_⟩
 ·
  have hnd1:t.Nodup:=by unfold List.Nodup;exact hrise.imp fun hab e=>by rw [e,rcB_irrefl] at hab;cases hab
  have hnd2:((allM L).map (fileT L)).Nodup:=by unfold List.Nodup;rw [List.pairwise_map];exact(unlike_all hw).uniq.imp fun hab e=>hab (congrArg FileM.name e)
  refine(List.perm_ext_iff_of_nodup hnd1 hnd2).2 fun f => ?_;rw [List.mem_map];constructor
  · intro hf;have h1:=hth f hf;unfold isThere at h1;obtain⟨n,hn,e⟩:=List.any_eq_true.1 h1;have e:n.name=f.name:=(by simpa using e);exact⟨n,hn,tree_uniq ht (hfile n hn) hf e⟩
  rintro⟨n,hn,rfl⟩;exact hfile n hn
 unfold cleanM;rw [List.all_eq_true];intro n hn;unfold oddN;rw [(hln n hn).2,(hone n hn).1];rfl
theorem hit_mem{O:List OpM}:hitO O v=true↔∃ o∈O,o.kind=5∧o.at'=v:=by unfold hitO;rw [List.any_eq_true];refine exists_congr fun o=>and_congr Iff.rfl ?_;simp
theorem PlIn.hitOld(h:PlIn L t id){x:VertM}(hx:vertM L x.id=some x)(hk:x.kind≠3)(hh:hitO (planM L t id) x.id=true) :
  ∃ n∈allM L,(x.id=n.file∧findT t n.name<0)∨(x∈namesM L n.file∧x.text≠n.name∧x.file=n.file):=by
 obtain⟨o,ho,h5,ha⟩:=hit_mem.1 hh;obtain⟨i,hi⟩:=List.getElem?_of_mem ho;cases h.case hi with
 | @kill n g1 g2 g3 =>
  obtain⟨y,hy,rfl,cy⟩:=h.killed g1 g2;have e:y.id=x.id:=ha;rw [e,hx] at hy;have e2:=Option.some.inj hy;subst e2;rcases cy with⟨a1,_,a3⟩|⟨a1,_,a3,a4,_⟩
  · exact⟨n,g1,.inl ⟨a1,a3⟩⟩
  · exact⟨n,g1,.inr ⟨a1,a4,a3⟩⟩
 | @file k f _ _ _ g4=>rw [g4] at h5;exact absurd h5 (show ¬ (1:UInt8)=5 by decide)
 | @name k f _ _ _ g4=>rw [g4] at h5;exact absurd h5 (show ¬ (2:UInt8)=5 by decide)
 | @edit F' c' want' j g1 g2 g3 =>
  rcases h.big g1 g3 (by rw [h5];decide) with⟨b1,y,b2,b3,b4,b5⟩|⟨m',b1,b2,b3,b4⟩
  · have e:y.id=x.id:=(by rw [← ha,b5];rfl);rw [e,hx] at b2;have e2:=Option.some.inj b2;subst e2;exact absurd b3 hk
  · rw [b3] at h5;exact absurd h5 (by decide)
inductive NmF (L:List PatchM) (t:List FileM) (id:PidM):VidM→FileM→Prop
 | old {n:NameM} {f:FileM}:n∈allM L→f∈t→f.name=n.name→NmF L t id n.file f
 | new {k:Nat} {f:FileM}:t[k]? = some f→isThere (allM L) f=false→NmF L t id ⟨id,UInt8.ofNat (newTo L t id k).length⟩ f
theorem NmF.tree(h:NmF L t id v f):f∈t:=by
 cases h with
 | old _ h2 _=>exact h2
 | new h1 _=>exact List.mem_of_getElem? h1
theorem PlIn.nmEd(h:PlIn L t id)(hv:NmF L t id v f):∃ c,EdF L t id v c f.lines:=by
 cases hv with
 | @old n f h1 h2 h3 =>obtain⟨k,hk⟩:=List.getElem?_of_mem h1;have hf:=find_yes h.tree h2 h3;obtain⟨g,g1,g2,g3⟩:=find_file hf;have e:=tree_uniq h.tree g1 h2 (by rw [g2,h3]);subst e;rw [← g3];exact⟨_,.old hk hf⟩
 | @new k f h1 h2=>exact⟨_,.new h1 h2⟩
theorem PlIn.nmInj(h:PlIn L t id){u:VidM}(hu:NmF L t id u f)(hv:NmF L t id v f):u=v:=by
 have hno:∀ {n:NameM},n∈allM L→f.name=n.name→isThere (allM L) f=false→False:=by intro n hn e hc;unfold isThere at hc;rw [List.any_eq_false] at hc;exact hc n hn (by simp [e])
 cases hu with
 | @old n f h1 h2 h3 =>
  cases hv with
  | @old m f g1 g2 g3=>rw [all_uniq h.base.wf h1 g1 (by rw [← h3,g3])]
  | @new k f g1 g2=>exact(hno h1 h3 g2).elim
 | @new k f h1 h2 =>
  generalize hU:(⟨id,UInt8.ofNat (newTo L t id k).length⟩:VidM)=U;cases hv with
  | @old m f g1 g2 g3=>exact(hno g1 g3 h2).elim
  | @new k' f g1 g2 =>
   have:k=k':=by
    have hr:=List.pairwise_iff_getElem.1 (tree_files h.tree).1;obtain⟨l1,e1⟩:=List.getElem?_eq_some_iff.1 h1;obtain⟨l2,e2⟩:=List.getElem?_eq_some_iff.1 g1;rcases Nat.lt_trichotomy k k' with q|q|q
    · have:=hr k k' l1 l2 q;rw [e1,e2,rcB_irrefl] at this;cases this
    · exact q
    · have:=hr k' k l2 l1 q;rw [e1,e2,rcB_irrefl] at this;cases this
   subst this;exact hU.symm
theorem PlIn.fileStays(h:PlIn L t id){n:NameM}(hn:n∈allM L)(hf:¬ findT t n.name<0):∃ x,vertM L n.file=some x∧x.kind=1∧x.dead=false∧hitO (planM L t id) n.file=false:=by
 obtain⟨x,hx,hk,hd⟩:=all_files h.base.wf hn;have e:=vertM_id hx;refine⟨x,hx,hk,hd,?_⟩;cases hc:hitO (planM L t id) n.file with
 | false=>rfl
 | true =>
  obtain⟨m,hm,q⟩:=h.hitOld (x:=x) (by rw [e];exact hx) (by rw [hk];decide) (by rw [e];exact hc);rcases q with⟨q1,q2⟩|⟨q1,_,_⟩
  · obtain⟨i,hi⟩:=List.getElem?_of_mem hm;obtain⟨j,hj⟩:=List.getElem?_of_mem hn;have:=all_inj h.base.wf hi hj (by rw [← q1,e]);subst this;rw [hi] at hj;rw [Option.some.inj hj] at q2;exact absurd q2 hf
  · have:=(names_mem h.base.len).1 q1;rw [hk] at this;exact absurd this.2.1 (by decide)
theorem PlIn.live2(h:PlIn L t id)(hne:planM L t id≠[]):v∈liveF (L++[pgPat id (planM L t id)])↔∃ f,NmF L t id v f:=by
 have hw2:=h.inn.wf2 hne;rw [live_mem (wf_len hw2)];constructor;rotate_left
 ·
  rintro⟨f,hv⟩;cases hv with
  | @old n f h1 h2 h3 =>
   obtain⟨x,hx,hk,hd,hh⟩:=h.fileStays h1 (find_yes h.tree h2 h3);refine⟨updO (planM L t id) x,?_,hk,?_⟩
   · rw [h.inn.vertOld (h.oldFile h1),hx];rfl
   show(x.dead || hitO (planM L t id) x.id)=false;rw [hd,vertM_id hx,hh];rfl
  | @new k f h1 h2 =>have e:=h.newN h1 h2;refine⟨_,h.inn.vertAt hne rfl (o:=pgNewO) ?_ rfl,rfl,rfl⟩;show(planM L t id)[(UInt8.ofNat (newTo L t id k).length).toNat]? = some pgNewO;rw [e];exact PlIn.newEmb (id:=id) h1 h2 0 _ rfl
 rintro⟨x,hx,hk,hd⟩;rcases h.inn.vertCases hne hx with⟨e,y,hy,rfl⟩|⟨e,o,ho,hm,rfl⟩
 ·
  have hd:(y.dead || hitO (planM L t id) y.id)=false:=hd;rw [Bool.or_eq_false_iff] at hd;have hyl:v∈liveF L:=(live_mem h.base.len).2 ⟨y,hy,hk,hd.1⟩;rw [← all_liveF] at hyl;obtain⟨n,hn,rfl⟩:=List.mem_map.1 hyl;have hf:¬ findT t n.name<0:=by intro q;have hm:killOp n.file∈planM L t id:=(by refine kills_plan.subset ?_;unfold killsTo;rw [List.take_length];refine List.mem_flatMap.2 ⟨n,hn,?_⟩;unfold killsN;rw [if_pos q];exact List.mem_singleton.2 rfl);have:hitO (planM L t id) y.id=true:=hit_mem.2 ⟨_,hm,rfl,(vertM_id hy).symm⟩;rw [hd.2] at this;cases this
  obtain⟨f,g1,g2,_⟩:=find_file hf;exact⟨f,.old hn g1 g2⟩
 cases h.case ho with
 | @kill n g1 g2 g3 =>obtain⟨y,_,rfl,_⟩:=h.killed g1 g2;exact absurd hk (show ¬ (5:UInt8)=1 by decide)
 | @name k f _ _ _ g4=>rw [g4] at hk;exact absurd hk (show ¬ (2:UInt8)=1 by decide)
 | @edit F c want j g1 g2 g3 =>
  rcases pg_cases g3 with q|⟨k,t',_,_,q⟩|⟨k,_,q⟩
  · obtain⟨_,_,_,e⟩:=mem_egKill.1 (List.mem_of_getElem? q);rw [e] at hk;exact absurd hk (show ¬ (5:UInt8)=1 by decide)
  · rw [q] at hk;exact absurd hk (show ¬ (3:UInt8)=1 by decide)
  obtain⟨_,_,_,_,_,_,_,_,_,_,e⟩:=mem_pgTies.1 (List.mem_of_getElem? q);rw [e] at hk;exact absurd hk (show ¬ (4:UInt8)=1 by decide)
 | @file k f g1 g2 g3 g4 =>
  have ev:v=⟨id,UInt8.ofNat (newTo L t id k).length⟩:=by rw [← g3,UInt8.ofNat_self,← e]
  rw [ev];exact⟨f,.new g1 g2⟩
theorem PlIn.names2(h:PlIn L t id)(hne:planM L t id≠[])(hv:NmF L t id v f):namesM (L++[pgPat id (planM L t id)]) v≠[]∧∀ x∈namesM (L++[pgPat id (planM L t id)]) v,x.text=f.name:=by
 have hw2:=h.inn.wf2 hne;have hmem:=fun x=>names_mem (wf_len hw2) (f:=v) (x:=x);have hno:∀ {x:VertM} {o:OpM},(planM L t id)[x.id.n.toNat]? = some o→makesB o.kind=true→x=⟨x.id,o.kind,fileOf x.id o,o.text,false⟩→x.id.pid=id→x.kind=2→∃ k g,t[k]? = some g∧isThere (allM L) g=false∧x.id.n.toNat=(newTo L t id k).length+1∧x.file=⟨id,UInt8.ofNat (newTo L t id k).length⟩∧x.text=g.name:=by
  intro x o ho hm hx e hk;have hk2:o.kind=2:=by rw [hx] at hk;exact hk
  have hfl:x.file=o.at':=by rw [hx];show fileOf x.id o=o.at';unfold fileOf;rw [if_neg (by rw [hk2];decide)]
  have htx:x.text=o.text:=by rw [hx]
  cases h.case ho with
  | @kill n g1 g2 g3 =>obtain⟨y,_,rfl,_⟩:=h.killed g1 g2;exact absurd hk2 (show ¬ (5:UInt8)=2 by decide)
  | @file k f _ _ _ g4=>rw [g4] at hk2;exact absurd hk2 (show ¬ (1:UInt8)=2 by decide)
  | @edit F c want j g1 g2 g3 =>
   rcases pg_cases g3 with q|⟨k,t',_,_,q⟩|⟨k,_,q⟩
   · obtain⟨_,_,_,e⟩:=mem_egKill.1 (List.mem_of_getElem? q);rw [e] at hk2;exact absurd hk2 (show ¬ (5:UInt8)=2 by decide)
   · rw [q] at hk2;exact absurd hk2 (show ¬ (3:UInt8)=2 by decide)
   obtain⟨_,_,_,_,_,_,_,_,_,_,e⟩:=mem_pgTies.1 (List.mem_of_getElem? q);rw [e] at hk2;exact absurd hk2 (show ¬ (4:UInt8)=2 by decide)
  | @name k g g1 g2 g3 g4 =>rw [g4] at hfl htx;exact⟨k,g,g1,g2,g3,hfl,htx⟩
 cases hv with
 | @old n f h1 h2 h3 =>
  have hf:=find_yes h.tree h2 h3;have hpid:=h.oldFile h1;constructor
  ·
   obtain⟨x,hx,ht⟩:=name_given h1 (by rw [← h3];exact(tree_name h.tree h2).1);obtain⟨g1,g2,g3,g4⟩:=(names_mem h.base.len).1 hx;have hh:hitO (planM L t id) x.id=false:=by
    cases hc:hitO (planM L t id) x.id with
    | false=>rfl
    | true =>
     obtain⟨m,hm,q⟩:=h.hitOld g1 (by rw [g2];decide) hc;rcases q with⟨q1,_⟩|⟨q1,q2,q3⟩
     · obtain⟨y,hy,hk,_⟩:=all_files h.base.wf hm;rw [← q1,g1] at hy;rw [← Option.some.inj hy,g2] at hk;exact absurd hk (by decide)
     · obtain⟨i,hi⟩:=List.getElem?_of_mem hm;obtain⟨j,hj⟩:=List.getElem?_of_mem h1;have:=all_inj h.base.wf hi hj (by rw [← q3,g3]);subst this;rw [hi] at hj;rw [Option.some.inj hj] at q2;exact absurd ht q2
   have:updO (planM L t id) x∈namesM (L++[pgPat id (planM L t id)]) n.file:=by
    refine(hmem _).2 ⟨?_,g2,g3,?_⟩
    · rw [h.inn.vertOld (show(updO (planM L t id) x).id.pid≠id from(h.base.vert g1).2.2)];show(vertM L x.id).map _=_;rw [g1];rfl
    · show(x.dead || hitO (planM L t id) x.id)=false;rw [g4,hh];rfl
   intro q;rw [q] at this;exact absurd this List.not_mem_nil
  ·
   intro x hx;obtain⟨g1,g2,g3,g4⟩:=(hmem x).1 hx;rcases h.inn.vertCases hne g1 with⟨e,y,hy,hyx⟩|⟨e,o,ho,hm,hxo⟩
   · have hyd:(y.dead || hitO (planM L t id) y.id)=false:=(by rw [← hyx] at g4;exact g4);rw [Bool.or_eq_false_iff] at hyd;have hyi:=vertM_id hy;have hyn:y∈namesM L n.file:=(names_mem h.base.len).2 ⟨by rw [hyi];exact hy,by rw [← hyx] at g2;exact g2,by rw [← hyx] at g3;exact g3,hyd.1⟩;have htx:x.text=y.text:=(by rw [← hyx];rfl);rw [htx,h3];refine Classical.byContradiction fun q => ?_;have hmm:killOp y.id∈planM L t id:=(by refine kills_plan.subset ?_;unfold killsTo;rw [List.take_length];refine List.mem_flatMap.2 ⟨n,h1,?_⟩;unfold killsN;rw [if_neg hf];exact List.mem_map.2 ⟨y,List.mem_filter.2 ⟨hyn,by simp [q]⟩,rfl⟩);have:hitO (planM L t id) y.id=true:=hit_mem.2 ⟨_,hmm,rfl,rfl⟩;rw [hyd.2] at this;cases this
   · obtain⟨k,g,_,_,_,q4,_⟩:=hno ho hm hxo e g2;rw [g3] at q4;exact absurd (congrArg VidM.pid q4) hpid
 | @new k f h1 h2 =>
  have e1:=h.newN h1 h2;have h3:=new_lt (id:=id) h1 h2;have h4:=h.base.few;have e2:(UInt8.ofNat ((newTo L t id k).length+1)).toNat=(newTo L t id k).length+1:=by simp;omega
  have ho:(planM L t id)[(newTo L t id k).length+1]? = some ⟨2,⟨id,UInt8.ofNat (newTo L t id k).length⟩,noVid,f.name⟩:=PlIn.newEmb (id:=id) h1 h2 1 _ rfl;constructor
  · have hv:vertM (L++[pgPat id (planM L t id)]) ⟨id,UInt8.ofNat ((newTo L t id k).length+1)⟩=some ⟨⟨id,UInt8.ofNat ((newTo L t id k).length+1)⟩,2,⟨id,UInt8.ofNat (newTo L t id k).length⟩,f.name,false⟩:=h.inn.vertAt hne (v:=⟨id,UInt8.ofNat ((newTo L t id k).length+1)⟩) (o:=⟨2,⟨id,UInt8.ofNat (newTo L t id k).length⟩,noVid,f.name⟩) rfl (by show(planM L t id)[(UInt8.ofNat ((newTo L t id k).length+1)).toNat]? = _;rw [e2];exact ho) rfl;have:=(hmem ⟨⟨id,UInt8.ofNat ((newTo L t id k).length+1)⟩,2,⟨id,UInt8.ofNat (newTo L t id k).length⟩,f.name,false⟩).2 ⟨hv,rfl,rfl,rfl⟩;intro q;rw [q] at this;exact absurd this List.not_mem_nil
  ·
   intro x hx;obtain⟨g1,g2,g3,g4⟩:=(hmem x).1 hx;rcases h.inn.vertCases hne g1 with⟨e,y,hy,hyx⟩|⟨e,o,ho',hm,hxo⟩
   · exfalso;have hyf:y.file=⟨id,UInt8.ofNat (newTo L t id k).length⟩:=(by rw [← hyx] at g3;exact g3);exact no_file h.base.wf (F:=⟨id,UInt8.ofNat (newTo L t id k).length⟩) h.base.noId hy hyf
   · obtain⟨k',g,q1,q2,_,q4,q5⟩:=hno ho' hm hxo e g2;rw [g3] at q4;have:=h.newOne h1 h2 q1 q2 (congrArg VidM.n q4);subst this;rw [h1] at q1;rw [q5,Option.some.inj q1]
theorem PlIn.settles(h:PlIn L t id)(hne:planM L t id≠[])(id':PidM):planM (L++[pgPat id (planM L t id)]) t id'=[]:=by
 have hw2:=h.inn.wf2 hne;have hown:∀ {v:VidM} {f:FileM},NmF L t id v f→ownN (L++[pgPat id (planM L t id)]) v=f.name:=by
  intro v f hv;obtain⟨h1,h2⟩:=h.names2 hne hv;unfold ownN;cases hn:namesM (L++[pgPat id (planM L t id)]) v with
  | nil=>exact absurd hn h1
  | cons x l=>exact h2 x (by rw [hn];exact List.mem_cons_self ..)
 have hcalm:Calm (L++[pgPat id (planM L t id)]):=by
  refine⟨fun v hv => ?_,fun v hv u hu e => ?_⟩
  · obtain⟨f,hf⟩:=(h.live2 hne).1 hv;rw [hown hf];exact h.names2 hne hf
  obtain⟨f,hf⟩:=(h.live2 hne).1 hv;obtain⟨g,hg⟩:=(h.live2 hne).1 hu;rw [hown hf,hown hg] at e;have:=tree_uniq h.tree hf.tree hg.tree e;subst this;exact h.nmInj hf hg
 have hall:=calm_all hw2 hcalm;have hat:∀ n∈allM (L++[pgPat id (planM L t id)]),∃ f,NmF L t id n.file f∧n.name=f.name:=by intro n hn;rw [hall] at hn;obtain⟨v,hv,rfl⟩:=List.mem_map.1 hn;obtain⟨f,hf⟩:=(h.live2 hne).1 hv;exact⟨f,hf,hown hf⟩
 have hfd:∀ n∈allM (L++[pgPat id (planM L t id)]),¬ findT t n.name<0:=by intro n hn;obtain⟨f,hf,e⟩:=hat n hn;exact find_yes h.tree hf.tree e.symm
 have hK:killsTo (L++[pgPat id (planM L t id)]) t (allM (L++[pgPat id (planM L t id)])).length=[]:=by unfold killsTo;rw [List.take_length,List.flatMap_eq_nil_iff];intro n hn;obtain⟨f,hf,e⟩:=hat n hn;unfold killsN;rw [if_neg (hfd n hn),List.map_eq_nil_iff,List.filter_eq_nil_iff];intro x hx;rw [(h.names2 hne hf).2 x hx,e];simp
 have hE:∀ k,edTo (L++[pgPat id (planM L t id)]) t id' k=[]:=by
  intro k;induction k with
  | zero=>rw [edTo_zero];exact hK
  | succ k ih =>
   rcases Nat.lt_or_ge k (allM (L++[pgPat id (planM L t id)])).length with hk|hk
   ·
    have hn:=List.getElem?_eq_getElem hk;rw [edTo_succ hn,ih];unfold plEdStep;split
    · rfl
    rename_i hf0;rw [List.nil_append];obtain⟨f,hf,e⟩:=hat _ (List.mem_of_getElem? hn);obtain⟨c,hc⟩:=h.nmEd hf;have hb:=((h.fileE hne hc).behind h.inn hne).2.2 id' 0;obtain⟨g,g1,g2,g3⟩:=find_file hf0;have eg:=tree_uniq h.tree g1 hf.tree (by rw [g2,e]);unfold wantT at g3;rw [g3,eg];exact hb
   have:edTo (L++[pgPat id (planM L t id)]) t id' (k+1)=edTo (L++[pgPat id (planM L t id)]) t id' k:=(by unfold edTo;rw [List.take_of_length_le (by omega),List.take_of_length_le hk]);rw [this];exact ih
 have hth:∀ f∈t,isThere (allM (L++[pgPat id (planM L t id)])) f=true:=by
  intro f hf;have hv:∃ v,NmF L t id v f:=by
   cases hc:isThere (allM L) f with
   | true =>unfold isThere at hc;obtain⟨n,hn,e⟩:=List.any_eq_true.1 hc;have e:n.name=f.name:=(by simpa using e);exact⟨n.file,.old hn hf e.symm⟩
   | false =>obtain⟨k,hk⟩:=List.getElem?_of_mem hf;exact⟨_,.new hk hc⟩
  obtain⟨v,hv⟩:=hv;have hl:=(h.live2 hne).2 ⟨f,hv⟩;unfold isThere;rw [List.any_eq_true];refine⟨⟨v,ownN (L++[pgPat id (planM L t id)]) v,[],[]⟩,?_,?_⟩
  · rw [hall];exact List.mem_map.2 ⟨v,hl,rfl⟩
  simp [hown hv]
 have hN:∀ k,newTo (L++[pgPat id (planM L t id)]) t id' k=[]:=by
  intro k;induction k with
  | zero=>rw [newTo_zero];exact hE _
  | succ k ih =>
   rcases Nat.lt_or_ge k t.length with hk|hk
   · have hn:=List.getElem?_eq_getElem hk;rw [newTo_succ hn,ih];unfold newStep;rw [if_pos (hth _ (List.mem_of_getElem? hn))]
   have:newTo (L++[pgPat id (planM L t id)]) t id' (k+1)=newTo (L++[pgPat id (planM L t id)]) t id' k:=(by unfold newTo;rw [List.take_of_length_le (by omega),List.take_of_length_le hk]);rw [this];exact ih
 exact hN _
end
end Go.Proofs.YtjccmcgglfncdaaGreatDoor
namespace Go.Proofs.YtjccmcgglfncdaaGreatDoor
open Go Go.RowKit
def tyAt(w:World)(k:Nat)(e:TypeId):Prop:=∃ cs fr,w.heap[k]? = some (.cells cs e fr)
structure Fr (e:TypeId) (N gw:Nat) (A B:World):Prop where
 os:B.os=A.os
 tape:B.tape=A.tape
 output:B.output=A.output
 size:A.heap.size≤B.heap.size
 block:∀ k,k<A.heap.size→k≠gw→¬ (N≤k∧tyAt A k e)→B.heap[k]? = A.heap[k]?
section
variable {e E : TypeId} {N gw M : Nat} {A B C : World}
theorem Fr.refl(e:TypeId)(N gw:Nat)(A:World):Fr e N gw A A:=⟨rfl,rfl,rfl,Nat.le_refl _,fun _ _ _ _=>rfl⟩
theorem Fr.trans(h:Fr e N gw A B)(k:Fr e N gw B C):Fr e N gw A C:=
 ⟨k.os.trans h.os,k.tape.trans h.tape,k.output.trans h.output,Nat.le_trans h.size k.size,fun i hi h1 h2=>(k.block i (Nat.lt_of_lt_of_le hi h.size) h1 (fun q=>h2 ⟨q.1,by obtain⟨cs,fr,q⟩:=q.2;rw [h.block i hi h1 h2] at q;exact⟨cs,fr,q⟩⟩)).trans (h.block i hi h1 h2)⟩
theorem Fr.of_below(h:Be A B):Fr e N gw A B:=⟨h.os,h.tape,h.output,h.size,fun i hi _ _=>h.block i hi⟩
theorem Fr.of_row{sz n:Nat}{v:Value}{xs:List Value}(ho:A.ownsRow N e sz v n xs)(hg:A.grownBy B v.ownBlock):Fr e N gw A B:=
 ⟨hg.os,hg.tape,hg.output,hg.size,fun i hi _ h2=>hg.block i hi fun q=>h2 (by
  rcases ho.2 with⟨rfl,_⟩|⟨g,cap,cur,rfl,hb,hgh,_⟩
  · cases q
  ·
   cases q
   exact⟨hb,_,_,hgh⟩)⟩
theorem Fr.of_box(hg:A.grownBy B (some gw)):Fr e N gw A B:=⟨hg.os,hg.tape,hg.output,hg.size,fun i hi h1 _=>hg.block i hi fun q=>h1 (Option.some.inj q)⟩
theorem Fr.below(h:Fr e N gw A B)(h1:M≤gw)(h2:M≤N)(h3:M≤A.heap.size):Below M A B:=
 ⟨h.os,h.tape,h.output,h.size,fun i hi=>h.block i (Nat.lt_of_lt_of_le hi h3) (by omega) (fun q=>by have:=q.1;omega)⟩
theorem Fr.arrT{g:Nat}{cs:List Value}(h:Fr e N gw A B)(ha:ArrT A g E cs)(hE:E≠e)(hg:g≠gw):ArrT B g E cs:=by unfold ArrT at *;rw [h.block g (Array.getElem?_eq_some_iff.1 ha).1 hg (fun q=>by obtain⟨cs',fr,q⟩:=q.2;rw [ha] at q;simp only [Option.some.injEq,Obj.cells.injEq] at q;exact hE q.2.1)];exact ha
theorem Fr.own{α:Type}{enc:α→List Value}{sz base:Nat}{v:Value}{xs:List α}(h:Fr e N gw A B)(ho:GOwn enc sz E A base v xs)(hE:E≠e)(hg:v.ownBlock≠some gw):GOwn enc sz E B base v xs:=by
 obtain⟨h1,h2|⟨g,cap,cur,rfl,h3,h4,h5⟩⟩:=ho
 · exact⟨h1,.inl h2⟩
 refine⟨h1,.inr ⟨g,cap,cur,rfl,h3,(h.block g (Array.getElem?_eq_some_iff.1 h4).1 (fun q=>hg (by rw [← q];rfl)) (fun q => ?_)).trans h4,h5⟩⟩;obtain⟨cs',fr,q⟩:=q.2;rw [h4] at q;simp only [Option.some.injEq,Obj.cells.injEq] at q;exact hE q.2.1
end
end Go.Proofs.YtjccmcgglfncdaaGreatDoor
set_option maxRecDepth 100000
set_option maxHeartbeats 40000000
namespace Go.Proofs.YtjccmcgglfncdaaGreatDoor
open Go Go.RowKit
section
attribute [local irreducible] aliveX firmX firmTo firmB
theorem efirmV_any(s:Option Addr)(l:List VertM)(R:List (Nat × Nat))(w:World)(h:ShV w s l R)(hl:l.length≤65536):Calls Tryz.prog 219 #[.pointer s] w (OwnRes encI 1 3 w (firmX l R)):=by
 have HS:=Lh h;have hal:=aliveX_len l R;clear h;go_enter Tryz.func219,Tryz.ntmps219;go_wp2_with fail;refine(saliveV_any s l R _ HS.o hl).mono ?_;rw [sares_is];rintro e w1 ⟨v,rfl,ho,hb⟩;obtain⟨a,cap,rfl,h1,h2,hc⟩:=irow_at ho.row;unfold maxLen at h2;have HC:=Lh hc;have HB:=Lh hb;clear ho hc hb;go_wp2;go_loopw [3,9] (fun v3 v9 wr=>FmRel w1 l R v3 v9 wr) (fun _ v9 _=>(aliveX l R).length - (intOf v9).toNat)
 case atStart=>exact⟨0,by omega,rfl,Lh (by rw [firmTo_zero];exact gown_nil _ _),Below.refl _ _⟩
 obtain⟨k,hk,rfl,HM,hbl⟩:=hrel;rename World=>wr
 by_cases hlt:k<(aliveX l R).length
 rotate_left
 ·
  obtain rfl:k=(aliveX l R).length:=by omega
  have HE:=HM.o;rw [firmTo_all] at HE;have HE2:=Lh (HE.base HB.o.size);clear HE;go_wp2;go_ret;exact⟨_,rfl,HE2.o,bvo HB.o hbl.o⟩
 obtain⟨b,off,rfl,sb,hcb⟩:=HC.o.resolve_left (by omega);obtain⟨i,hi⟩:=gol hlt;obtain⟨sx,x0⟩:=hcb k i hi _ hbl.o;have hil:=aliveX_lt (List.mem_of_getElem? hi);have HI:=Lh hi;have HSr:=Lh (HS.o.over (bvo HB.o hbl.o));have hfl:=firmTo_len l R k;clear hcb hi;cases hf:firmB R l.length i with
 | true =>
  have HV:=Lh hf;have HN:=Lh (firmTo_yes HI.o hf);have hN:(firmTo l R k).length+1≤1099511627776:=by omega
  have hB:=hbl.o.size;clear hf;go_wp2_with fail;refine(sfirmV_any s i l R _ HSr.o hil hl).mono ?_;rintro e w2 ⟨rfl,hw⟩;obtain rfl:=hw.symm;rw [HV.o];go_wp2_with (at_builtin;refine apD slIntI rfl _ _ rfl w1.heap.size _ _ (drf _) 1 _ _ _ HM.o rfl rfl rfl rfl hN (by decide) hB ?_;intro v9 w9 ho9 hg9);go_roundw
  case rel=>exact⟨k+1,hlt,by go_num,(by show GOwn _ _ _ _ _ _ _;rw [HN.o];exact GOwn.snoc ho9),bgr hbl.o hB HM.o hg9⟩
  simp [intOf];omega
 | false =>
  have HV:=Lh hf;have HN:=Lh (firmTo_no HI.o hf);clear hf;go_wp2_with fail;refine(sfirmV_any s i l R _ HSr.o hil hl).mono ?_;rintro e w2 ⟨rfl,hw⟩;obtain rfl:=hw.symm;rw [HV.o];go_wp2;go_roundw
  case rel=>exact⟨k+1,hlt,by go_num,(by show GOwn _ _ _ _ _ _ _;rw [HN.o];exact HM.o),hbl⟩
  simp [intOf];omega
end
section
attribute [local irreducible] textAt textsTo
theorem etextsV_any(s:Option Addr)(v:Value)(l:List VertM)(R:List (Nat × Nat))(is':List Nat)(w:World)(h:ShV w s l R)(hv:GRow encI 1 w v is')(hi:∀ i∈is',i<l.length)(hn:is'.length≤1000000) :
  Calls Tryz.prog 221 #[.pointer s,v] w (OwnRes encS1 1 9 w (is'.map (textAt l))):=by
 have HS:=Lh h;have HI:=Lh hi;obtain⟨a,cap,rfl,h1,h2,hc⟩:=irow_at hv;unfold maxLen at h2;have HC:=Lh hc;clear h hv hi hc;go_enter Tryz.func221,Tryz.ntmps221;go_wp2;go_loopw [5,12] (fun v5 v12 wr=>TxRel w l is' v5 v12 wr) (fun _ v12 _=>is'.length - (intOf v12).toNat)
 case atStart=>exact⟨0,by omega,rfl,Lh (by rw [textsTo_zero];exact gown_nil _ _),Below.refl _ _⟩
 obtain⟨k,hk,rfl,HM,hbl⟩:=hrel;rename World=>wr
 by_cases hlt:k<is'.length
 rotate_left
 ·
  obtain rfl:k=is'.length:=by omega
  have HE:=HM.o;rw [textsTo_all] at HE;have HE2:=Lh HE;clear HE;go_wp2;go_ret;exact⟨_,rfl,HE2.o,hbl.o⟩
 obtain⟨b,off,rfl,sb,hcb⟩:=HC.o.resolve_left (by omega);obtain⟨i,hiu⟩:=gol hlt;obtain⟨sx,x0⟩:=hcb k i hiu _ hbl.o;obtain⟨x,hx⟩:=gol (HI.o i (List.mem_of_getElem? hiu));have HX:=Lh hx;have HSu:=Lh (textsTo_succ (l:=l) hiu);rw [textAt_get hx] at HSu;have hfl:=textsTo_len l is' k;have hN:(textsTo l is' k).length+1≤1099511627776:=by omega
 clear hcb hiu hx;go_wp2_with fail;refine(svertV_any s i x l R _ (HS.o.over hbl.o) HX.o).mono ?_;rintro e w2 ⟨rfl,hb2⟩;have HB2:=Lh (bvo hbl.o hb2);have HM2:=Lh (HM.o.over hb2);clear hb2 x0 sx;go_upto_region 6 with fail;have HA3:=Lh (anw w2 (cX x) 101);have HB3a:=Lh (bnew (w:=w2) (.cells (cX x) 101));generalize w2.alloc (.cells (cX x) 101)=w3 at *;have HB3:=Lh (bvo HB2.o HB3a.o);have HM3:=Lh (HM2.o.over HB3a.o);have hB3:=HB3.o.size;obtain⟨y0,y1,y2,y3,y4,y5,y6,y7,y8,sy⟩:=HA3.o.c9;go_wp2_with (at_builtin;refine apD slStrE rfl _ _ rfl w.heap.size _ _ (drf _) 1 _ _ _ HM3.o rfl rfl rfl rfl hN (by decide) hB3 ?_;intro v9 w9 ho9 hg9);go_roundw
 case rel=>exact⟨k+1,hlt,by go_num,(by show GOwn _ _ _ _ _ _ _;rw [HSu.o];exact GOwn.snoc ho9),bgr HB3.o hB3 HM3.o hg9⟩
 simp [intOf];omega
end
section
attribute [local irreducible] keptV1 minus keptTo textAt firmX
theorem ekeepsV_any(s:Option Addr)(wv:Value)(l:List VertM)(R:List (Nat × Nat))(want:List ByteArray)(w:World)(h:ShV w s l R)(hl:l.length≤1000)(hw:SRow w wv want)(hm:want.length≤1000) :
  Calls Tryz.prog 147 #[.pointer s,wv] w (KpRes w (keptTo (firmX l R) (pairs ((firmX l R).map (textAt l)) want) want.length)):=by
 have HS:=Lh h;have HW:=Lh hw;obtain⟨m,hmm⟩:∃ m,m=want.length:=⟨_,rfl⟩;obtain⟨a,cap,rfl,h1,h2,_⟩:=SRow.form hw;unfold maxLen at h2;rw [← hmm] at HW h1 hm ⊢;have HM:=Lh hmm;have HZ:=Lh (minus_zero m);have hq:8*m≤281474976710656:=by omega
 have hmx:m≤maxLen:=by unfold maxLen;omega
 have hfl:=firmX_len l R;clear h hw hmm;go_enter Tryz.func147,Tryz.ntmps147;go_upto_region 2 with(at_make;refine wpList_make_zeros slzIntE rfl _ _ rfl w.heap.size m _ rfl rfl rfl hq hmx (Nat.le_refl _) ?_;intro w1 ho1 hg1)
 have HB1:=Lh (grown_over' hg1 (fun g hg=>by cases hg));obtain⟨hA,_⟩:=own_full ho1;obtain⟨g,hg⟩:∃ g,g=w.heap.size:=⟨_,rfl⟩;rw [← hg] at hA ⊢;rw [← HZ.o] at hA;have HA:=Lh hA;have hgl:w.heap.size≤g:=by omega
 clear hA ho1 hg1 hg;go_wp2;go_loopw [15] (fun v15 wr=>K1Rel w g m v15 wr) (fun v15 _=>m - (intOf v15).toNat)
 case atStart=>exact⟨0,by omega,rfl,HA,HB1⟩
 obtain⟨j,hj,rfl,HA2,HB2⟩:=hrel;rename World=>wr;have sg:=HA2.o.arr.lt;have HL2:=Lh (minus_len j m)
 by_cases hlt:j<m
 ·
  have c0:=HA2.o.arr.cell (keptV1_get (minus_get (j:=j) hlt));have f0:=HA2.o.arr.free j;have HA3:=Lh (HA2.o.set j (.int .i64 (-1)));rw [keptV1_set,minus_set hlt] at HA3;have HB3:=Lh (HB2.o.setCell (p:=⟨g,j,none⟩) hgl (.int .i64 (-1)));go_wp2;go_roundw
  case rel=>exact⟨j+1,hlt,by go_num,HA3,HB3⟩
  simp [intOf];omega
 obtain rfl:m=j:=by omega
 have HS3:=Lh (HS.o.over HB2.o);have sg0:=sg;clear sg;go_wp2_with fail;refine(efirmV_any s l R _ HS3.o (by omega)).mono ?_;rintro e w3 ⟨fv,rfl,ho3,hb3⟩;obtain⟨a3,c3,rfl,z1,z2,hcf⟩:=irow_at ho3.row;unfold maxLen at z2;have HFR:=Lh ho3.row;have HFO:=Lh ho3;have hgB:=sg0;have HCF:=Lh hcf;have HB3:=Lh (bvo HB2.o hb3);have HA3:=Lh (HA2.o.over hb3);clear ho3 hcf hb3;go_wp2_with fail;refine(etextsV_any s _ l R (firmX l R) _ (HS.o.over HB3.o) HFR.o (fun i hi=>firmX_lt hi) (by omega)).mono ?_;rintro e w4 ⟨tv,rfl,ho4,hb4⟩;have HT4:=Lh (srow_of ho4.row);have HB4:=Lh (bvo HB3.o hb4);have HA4:=Lh (HA3.o.over hb4);have HB34:=Lh hb4;clear ho4 hb4;go_wp2_with fail;refine(match_any _ _ ((firmX l R).map (textAt l)) want _ HT4.o (by(have:=(HW.o.over HB4.o);exact this)) (by rw [texts_len];omega) (by rw [← HM.o];exact hm)).mono ?_;rintro e w5 ⟨mv,Bm,rfl,ho5,hB1,hB2,hb5⟩;have HPI:Hid (∀ p∈pairs ((firmX l R).map (textAt l)) want,p.1<(firmX l R).length∧p.2<m):=fun p hp=>by obtain⟨q1,q2,_⟩:=ePairs_in hp;rw [texts_len] at q1;exact⟨q1,by rw [HM.o];exact q2⟩
 obtain⟨ps,hps⟩:∃ ps,ps=pairs ((firmX l R).map (textAt l)) want:=⟨_,rfl⟩;rw [← hps] at ho5 HPI ⊢;have HO5:=Lh (show GOwn encP 2 169 w5 Bm mv ps from ho5);have HB5:=Lh (bvo HB4.o hb5);have HA5:=Lh (HA4.o.over hb5);have HFO5:=Lh ((HFO.o.over HB34.o).over hb5);obtain⟨a5,c5,rfl,y1,y2,_⟩:=prow_at HO5.o.row;unfold maxLen at y2;have HPS:=Lh hps;clear ho5 hb5 hps hB1 hB2;go_wp2;go_loopw [30] (fun v30 wq=>K2Rel w w5 g m (firmX l R) ps v30 wq) (fun v30 _=>ps.length - (intOf v30).toNat)
 case atStart=>exact⟨0,by omega,rfl,Lh (by rw [← kp_zero];exact HA5.o),World.grownBy.refl _ _,HB5⟩
 obtain⟨k,hk,rfl,HA6,HG6,HB6⟩:=hrel;rename World=>wq;have HO6:=Lh (own_kept HO5.o HG6.o (HA5.o.ne HO5.o (by decide)));have HFO6:=Lh (own_kept HFO5.o HG6.o (fun e=>by have:=gown_low HFO5.o e.symm;omega))
 by_cases hlt:k<ps.length
 rotate_left
 ·
  obtain rfl:k=ps.length:=by omega
  have HE:=HA6.o;rw [List.take_length] at HE;have HE2:=Lh HE;have HKL:=Lh (kept_length (firmX l R) ps m);clear HE;go_wp2;go_ret;refine⟨g,?_,hgl,(by rw [← HPS.o];exact HE2.o),HB6.o⟩;rw [← HPS.o,HKL.o];rfl
 obtain⟨a7,c7,e7,_,_,hc7⟩:=prow_at HO6.o.row;cases e7
 obtain⟨b7,off7,rfl,sb7,hcb7⟩:=hc7.resolve_left (by omega);obtain⟨p,hp⟩:=gol hlt;obtain⟨hp1,hp2⟩:=HPI.o p (List.mem_of_getElem? hp);have HP:=Lh (kept_succ (firm:=firmX l R) (m:=m) hp);obtain⟨sx,x0,x1⟩:=hcb7 k p hp _ (Below.refl _ _);obtain⟨ip,jp⟩:=p;simp only at hp1 hp2 x0 x1;obtain⟨fi,hfi⟩:=gol hp1;have HFI:=Lh hfi;clear hcb7 hp;go_upto_region 11 with fail;have HA8:=Lh (anw wq #[.int .i64 ip,.int .i64 jp] 169);have HB8a:=Lh (bnew (w:=wq) (.cells #[.int .i64 ip,.int .i64 jp] 169));generalize wq.alloc (.cells #[.int .i64 ip,.int .i64 jp] 169)=w8 at *;clear x0 x1 sx;have HAg:=Lh (HA6.o.over HB8a.o);have HFO8:=Lh (HFO6.o.over HB8a.o);have HB8:=Lh (bvo HB6.o HB8a.o);have HG8:=Lh (gtr HG6.o (grown_of_below HB8a.o (row:=some g)));obtain⟨af,cf,ef,_,_,hcf2⟩:=irow_at HFO8.o.row;cases ef
 obtain⟨bf,offf,rfl,sbf,hcbf⟩:=hcf2.resolve_left (by omega);obtain⟨sf,f0⟩:=hcbf ip fi hfi _ (Below.refl _ _);obtain⟨p0,p1,sp⟩:=HA8.o.c2;have hkl:=kept_length (firmX l R) (ps.take k) m;obtain⟨y,hy⟩:=gol (xs:=keptTo (firmX l R) (ps.take k) m) (i:=jp) (by rw [hkl];exact hp2);have g0:=HAg.o.arr.cell (keptV1_get hy);have gf:=HAg.o.arr.free jp;have sg:=HAg.o.arr.lt;have HN:=Lh (HAg.o.set jp (.int .i64 fi));rw [keptV1_set,show((fi:Nat):Int)=(((firmX l R).getD (ip,jp).1 0:Nat):Int) by rw [getD_of hfi]] at HN;rw [← HP.o] at HN;have HBn:=Lh (HB8.o.setCell (p:=⟨g,jp,none⟩) hgl (.int .i64 fi));have HGn:=Lh (gtr HG8.o (gsc (g:=g) w8 jp (.int .i64 fi)));have HEq:Hid ((((firmX l R).getD (ip,jp).1 0:Nat):Int)=(fi:Int)):=by show _=_;rw [getD_of hfi]
 rw [HEq.o] at HN;clear hcbf hfi hy hkl hcf2;go_wp2_with fail;refine wlo 9 fun hcur=>?_;repeat refine lxq ?_
 refine lxe ?_;clear hcur;go_wp2;go_roundw
 case rel=>exact⟨k+1,hlt,by go_num,Lh (HN.o.over (Below.refl _ _).drew),Lh (gtr HGn.o (grown_of_below (Below.refl _ _).drew)),Lh HBn.o.drew⟩
 simp [intOf];omega
end
section
attribute [local irreducible] hereF killsE keptV1 aliveX killV5
theorem ekillsV_any(s:Option Addr)(g:Nat)(l:List VertM)(R:List (Nat × Nat))(ks:List Int)(w:World)(h:ShV w s l R)(hl:l.length≤1000)(hk:ArrT w g 3 (keptV1 ks))(hok:∀ x∈ks,okInt x)(hkl:ks.length≤1000) :
  Calls Tryz.prog 148 #[.pointer s,.slice (some ⟨g,0,none⟩) ks.length ks.length] w (OwnRes encOp 8 76 w (killsE l (aliveX l R) ks)):=by
 have hmm:=@run_makeMap Tryz.prog;have HS:=Lh h;have HK:=Lh hk;have HOK:=Lh hok;have hal:=aliveX_len l R;have HT0:=Lh (show TMap Tryz.prog 3 numV okInt numV (w.alloc (.map #[] 0)) w.heap.size 0 (hereF ks 0) by rw [hereF_zero];exact TMap.made w);have HB0:=Lh (bnew (w:=w) (.map #[] 0));clear h hk hok;go_enter Tryz.func148,Tryz.ntmps148;go_upto_region 2 with fail;clear hmm;obtain⟨m,hm⟩:∃ m,m=w.heap.size:=⟨_,rfl⟩;rw [← hm];have HT1:=HT0.o;have hml:w.heap.size≤m:=by omega
 rw [← hm] at HT1;have HT:=Lh HT1;generalize w.alloc (.map #[] 0)=w0 at *;clear hm HT1 HT0;go_wp2;go_loopw [16] (fun v16 wr=>I1Rel w m ks v16 wr) (fun v16 _=>ks.length - (intOf v16).toNat)
 case atStart=>exact⟨0,0,by omega,by omega,rfl,HT,HB0⟩
 obtain⟨k,N,hk,hN,rfl,HM,HB⟩:=hrel;rename World=>wr;have HKr:=Lh (HK.o.over HB.o);have sg:=HKr.o.arr.lt
 by_cases hlt:k<ks.length
 ·
  obtain⟨x,hx⟩:=gol hlt;have c0:=HKr.o.arr.cell (keptV1_get hx);have HO:=Lh (HOK.o x (List.mem_of_getElem? hx));have HSu:=Lh (hereF_succ hx);clear hx;go_wp2_with (refine wpList_tstore keysInt numV_inj rfl _ _ _ _ rfl Tryz.underlying279 m N (hereF ks k) rfl HM.o (by unfold maxLen;omega) x rfl HO.o 1 rfl ?_;intro w10 hm10 hg10 hs10;clear hs10);rw [HSu.o] at hm10;have HM2:=Lh hm10;have HBn:=Lh (HB.o.grown hg10 HB.o.size fun q hq=>by cases hq;exact hml);go_roundw
  case rel=>exact⟨k+1,N+1,hlt,by omega,by go_num,HM2,HBn⟩
  simp [intOf];omega
 obtain rfl:k=ks.length:=by omega
 clear sg;go_wp2_with fail;refine(saliveV_any s l R _ (HS.o.over HB.o) (by omega)).mono ?_;rw [sares_is];rintro e w1 ⟨v,rfl,ho,hb⟩;obtain⟨a,cap,rfl,h1,h2,hc⟩:=irow_at ho.row;unfold maxLen at h2;have HC:=Lh hc;have HB1:=Lh (bvo HB.o hb);have HM1:=Lh (HM.o.over hb);have HAL:Hid (∀ i∈aliveX l R,i<l.length):=fun i hi=>aliveX_lt hi;clear ho hc hb;generalize aliveX l R=al at *;go_wp2;go_loopw [8,26] (fun v8 v26 wq=>I2Rel w1 l al ks v8 v26 wq) (fun _ v26 _=>al.length - (intOf v26).toNat)
 case atStart=>exact⟨0,by omega,rfl,Lh (by rw [kills_zero];exact gown_nil _ _),Below.refl _ _⟩
 obtain⟨q,hq,rfl,HO,hbl⟩:=hrel;rename World=>wq;have hkl2:=kills_len l ks (al.take q);have hkl3:(al.take q).length≤al.length:=by rw [List.length_take];omega
 by_cases hlt:q<al.length
 rotate_left
 ·
  obtain rfl:q=al.length:=by omega
  have HE:=HO.o;rw [List.take_length] at HE;have HE2:=Lh (HE.base HB1.o.size);clear HE;go_wp2;go_ret;exact⟨_,rfl,HE2.o,bvo HB1.o hbl.o⟩
 obtain⟨b,off,rfl,sb,hcb⟩:=HC.o.resolve_left (by omega);obtain⟨i,hi⟩:=gol hlt;obtain⟨sx,x0⟩:=hcb q i hi _ hbl.o;obtain⟨x,hx⟩:=gol (HAL.o i (List.mem_of_getElem? hi));have HX:=Lh hx;have HI:=Lh hi;have HKV:=Lh (killV5_at hx);have hil:=(List.getElem?_eq_some_iff.1 hx).1;have HOi:=Lh (ok_int (i:=i) (by omega));clear hcb hi hx;go_wp2_with fail;refine(svertV_any s i x l R _ (HS.o.over (bvo HB1.o hbl.o)) HX.o).mono ?_;rintro e w2 ⟨rfl,hb2⟩;have HB2:=Lh (bvo hbl.o hb2);have HO2:=Lh (HO.o.over hb2);clear hb2 x0 sx;go_upto_region 12 with fail;have HA3:=Lh (anw w2 (cX x) 101);have HB3a:=Lh (bnew (w:=w2) (.cells (cX x) 101));generalize w2.alloc (.cells (cX x) 101)=w3 at *;have HB3:=Lh (bvo HB2.o HB3a.o);have HO3:=Lh (HO2.o.over HB3a.o);have HM3:=Lh (HM1.o.over HB3.o);have hB3:=HB3.o.size;obtain⟨y0,y1,y2,y3,y4,y5,y6,y7,y8,sy⟩:=HA3.o.c9;cases hcn:ks.contains (Int.ofNat i) with
 | true =>
  have HLK:=Lh (hereF_yes hcn);have HN:=Lh (kills_no (l:=l) HI.o hcn);clear hcn;go_wp2_with (refine wpList_tlookV keysInt numV_inj rfl _ _ _ rfl Tryz.underlying279 0 (zero_numV _) m N (hereF ks ks.length) rfl HM3.o (i:Int) rfl HOi.o _ HLK.o ?_);go_roundw
  case rel=>exact⟨q+1,hlt,by go_num,(by show GOwn _ _ _ _ _ _ _;rw [HN.o];exact HO3.o),HB3⟩
  simp [intOf];omega
 | false =>
  have HLK:=Lh (hereF_no hcn);have HN:=Lh (kills_yes (l:=l) HI.o hcn);have hN3:(killsE l (al.take q) ks).length+1≤1099511627776:=by omega
  clear hcn;go_wp2_with (first|(refine wpList_tlookV keysInt numV_inj rfl _ _ _ rfl Tryz.underlying279 0 (zero_numV _) m N (hereF ks ks.length) rfl HM3.o (i:Int) rfl HOi.o _ HLK.o ?_)|(at_builtin;refine apD slOp rfl _ _ rfl w1.heap.size _ _ (drf _) 1 _ _ _ HO3.o rfl rfl rfl rfl hN3 (by decide) hB3 ?_;intro v9 w9 ho9 hg9));go_roundw
  case rel=>exact⟨q+1,hlt,by go_num,(by show GOwn _ _ _ _ _ _ _;rw [HN.o,HKV.o];exact GOwn.snoc ho9),bgr HB3.o hB3 HO3.o hg9⟩
  simp [intOf];omega
end
section
attribute [local irreducible] keptV1 keptTo textAt firmX aliveX killsE addsTo tiesTo atL
theorem eopsV_any(s:Option Addr)(wv:Value)(l:List VertM)(R:List (Nat × Nat))(file:VidM)(id:PidM)(from':Nat)(want:List ByteArray)(w:World)(h:ShV w s l R)(hl:l.length≤1000)(hw:SRow w wv want)(hm:want.length≤1000)(hf:from'≤4000000) :
  Calls Tryz.prog 85 #[.pointer s,vidV file,pidV id,.int .i64 from',wv] w (OwnRes encOp 8 76 w (editM l R (aliveX l R) (firmX l R) file id from' want (pairs ((firmX l R).map (textAt l)) want))):=by
 rw [edit_eq];have HBX:=(bnew (w:=w) (.cells (cV file) 74)).alloc (by simp) (.cells (cP id) 25);have HS:=Lh (h.over HBX);have HW:=Lh (hw.over HBX);have HF:=Lh ((anw w (cV file) 74).alloc (.cells (cP id) 25));have HI:=Lh (an2 w (.cells (cV file) 74) (cP id) 25);have HB:=Lh HBX;obtain⟨wa,wc,rfl,z1,z2,_⟩:=SRow.form hw;unfold maxLen at z2;clear h hw HBX;unfold vidV pidV;go_enter Tryz.func85,Tryz.ntmps85;go_upto_region 1 with fail;generalize (w.alloc (.cells (cV file) 74)).alloc (.cells (cP id) 25)=w0 at *;go_wp2_with fail;refine(ekeepsV_any s _ l R want _ HS.o hl HW.o hm).mono ?_;generalize hks:keptTo (firmX l R) (pairs ((firmX l R).map (textAt l)) want) want.length=ks;have HKI:Hid (∀(j:Nat) (x:Int),ks[j]? = some x→x = -1∨∃ i:Nat,x=(i:Int)∧i<l.length):=fun j x hx=>by
  rw [← hks] at hx;refine kept_is (fun i hi=>firmX_lt hi) ?_ hx;rcases Nat.eq_zero_or_pos l.length with h0|h0
  · refine .inr (List.eq_nil_iff_forall_not_mem.2 fun p hp => ?_);have h1:=(ePairs_in hp).1;rw [texts_len] at h1;have:=firmX_len l R;omega
  exact .inl h0
 have hkl:ks.length=want.length:=by rw [← hks];exact kept_length _ _ _
 have HKL:=Lh hkl;have HKS:=Lh hks;clear hks;rintro e w1 ⟨gK,rfl,hgK,hA,hb1⟩;have HA1:=Lh hA;have HB1:=Lh hb1;have HOK:Hid (∀ x∈ks,okInt x):=fun x hx=>by
  obtain⟨j,hj⟩:=List.getElem?_of_mem hx;rcases HKI.o j x hj with rfl|⟨i,rfl,hi⟩
  · unfold okInt;omega
  exact ok_int (by omega)
 clear hA hb1;rw [hkl];go_wp2_with fail;refine(hkl▸ekillsV_any s gK l R ks _ (HS.o.over HB1.o) hl HA1.o HOK.o (by omega)).mono ?_;have hkil:=Nat.le_trans (kills_len l ks (aliveX l R)) (aliveX_len l R);generalize hkill:killsE l (aliveX l R) ks=kl at *;have HKLL:=Lh hkill;clear hkill;rintro e w2 ⟨v12,rfl,ho2,hb2⟩;have HO2:=Lh (ho2.base HB1.o.size);have HB2:=Lh (bvo HB1.o hb2);have HA2:=Lh (HA1.o.over hb2);clear ho2 hb2 hkl;obtain⟨m,hmm⟩:∃ m,m=want.length:=⟨_,rfl⟩;rw [← hmm] at hm ⊢;have HMM:=Lh hmm;have hmx:m≤maxLen:=by unfold maxLen;omega
 obtain⟨ti,tz,t1,t2,t3,t4,t5,t6,t7⟩:=slVidE.out;have hz:((Tryz.prog.info? 74).bind (·.zero))=some (.agg #[.int .u8 0,.int .u16 0,.int .u8 0]):=by kernel_rfl
 rw [t2] at hz;have hz2:tz=.agg #[.int .u8 0,.int .u16 0,.int .u8 0]:=by have:ti.zero=some (.agg #[.int .u8 0,.int .u16 0,.int .u8 0]):=hz;rw [t3] at this;exact Option.some.inj this
 subst hz2;have hbm:ti.bytes*m≤281474976710656:=by rw [t5];omega
 have HT:=Lh (And.intro t2 (And.intro t3 (And.intro t4 hbm)));clear hmm hz t1 t2 t3 t4 t5 t6 t7 hbm;go_upto_region 4 with(at_make;refine wpList_make_full _ rfl _ _ _ rfl w2.heap.size 74 ti _ 3 Tryz.underlying148 HT.o.1 HT.o.2.1 HT.o.2.2.1 .i64 .i64 _ _ m rfl rfl rfl rfl HT.o.2.2.2 hmx (Nat.le_refl _) ?_;intro w3 ho3 hg3)
 have HB3a:=Lh (grown_over' hg3 (fun g hg=>by cases hg));have hA3:=(own_fullN ho3).1;rw [show(Value.agg #[.int .u8 0,.int .u16 0,.int .u8 0]).cells=#[.int .u8 0,.int .u16 0,.int .u8 0] from rfl,vids_cells] at hA3;have hgl:w0.heap.size≤w2.heap.size:=HB2.o.size;have hne:gK≠w2.heap.size:=by have:=HA2.o.arr.lt;omega
 obtain⟨gA,hgA0⟩:∃ gA,gA=w2.heap.size:=⟨_,rfl⟩;rw [← hgA0] at hA3 hgl hne ⊢;obtain⟨p0,c0,rfl⟩:=oown_form HO2.o;have HMid0:Hid (MidE w3 w0 gK gA m 0 ks p0 c0 kl []):=⟨HA2.o.over HB3a.o,(by rw [atL_zero];exact hA3),HO2.o.over HB3a.o,bvo HB2.o HB3a.o⟩;clear hA3 ho3 hg3 hgA0 HB3a HT HA2 HO2 HA1;go_wp2;go_loopw [12,30] (fun v12 v30 wr=>A1Rel w0 l file id from' ks want kl gK gA m v12 v30 wr) (fun _ v30 _=>m - (intOf v30).toNat)
 case atStart=>exact⟨0,kl,[],p0,c0,by omega,rfl,rfl,Lh adds_zero.symm,HMid0⟩
 obtain⟨j,ops,at',p,c,hj,rfl,rfl,HAD,HMid⟩:=hrel;rename World=>wr;obtain⟨hal,hol⟩:=adds_both HKL.o (by rw [← HMM.o];exact hj) HAD.o;have HAL:=Lh hal;have sk:=HMid.o.kept.arr.lt;clear hal
 by_cases hlt:j<m
 ·
  obtain⟨x,hx⟩:=gol (xs:=ks) (i:=j) (by rw [HKL.o,← HMM.o];exact hlt);obtain⟨t,ht⟩:=gol (xs:=want) (i:=j) (by rw [← HMM.o];exact hlt);have k0:=HMid.o.kept.arr.cell (keptV1_get hx);obtain⟨y,hy⟩:=gol (xs:=atL at' j m) (i:=j) (by rw [atL_len HAL.o hj];exact hlt);have HY:=Lh hy;have HX:=Lh hx;have HTx:=Lh ht;have HBw:=Lh HMid.o.below;clear hy ht;rcases HKI.o j x hx with hx1|⟨i,hx1,hil⟩
  rotate_left
  ·
   subst hx1;obtain⟨x,hxv⟩:=gol hil;have HXv:=Lh hxv;have HAD2:=Lh (adds_next1 HX.o HTx.o hxv HAD.o);clear hx hxv;go_wp2_with fail;refine(svertV_any s i x l R _ (HS.o.over HBw.o) HXv.o).mono ?_;rintro e w4 ⟨rfl,hb4⟩;have HMid4:=Lh (HMid.o.over hb4);clear hb4 k0 sk;go_upto_region 9 with fail;have HA5:=Lh (anw w4 (cX x) 101);have HB5:=Lh (bnew (w:=w4) (.cells (cX x) 101));generalize w4.alloc (.cells (cX x) 101)=w5 at *;have HMid5:=Lh (HMid4.o.over HB5.o);obtain⟨y0,y1,y2,y3,y4,y5,y6,y7,y8,sy⟩:=HA5.o.c9;go_wp2_with ((with_reducible show wpList _ _ _ ({dst:=_,op:=.store _ _ _,type:=_,pos:=_,after:=_,guard:=_} :: _) _ _);refine wpList_store_arrN rowVidE rfl _ _ rfl HMid5.o.names (atL_flat HAL.o hj) hmx (j*3) (encVid x.id) rfl rfl rfl (by rw [encVid_len];omega) (oneVid x.id) ?_;intro w6 hA5 hg5);have HMid6:=Lh (HMid5.o.name HAL.o hlt hgl hne hA5 hg5);clear hA5 hg5;go_roundw
   case rel=>exact⟨j+1,ops,_,p,c,hlt,by go_num,rfl,HAD2,HMid6⟩
   simp [intOf];omega
  subst hx1;have HI4:=Lh (HI.o.over HBw.o);obtain⟨i0,i1,si⟩:=HI4.o.c2;obtain⟨N,hN⟩:∃ N,from'+ops.length=N:=⟨_,rfl⟩;have eN:((from':Int)+(ops.length:Int))=(N:Int):=by omega
  have hNl:N<4611686018427387904:=by omega
  have HN:=Lh hN;clear hx hN;go_wp2_with fail;refine(pvid_any id N _ hNl).mono ?_;rintro e w4 ⟨rfl,hb4⟩;have HMid4:=Lh (HMid.o.over hb4);clear hb4 k0 sk i0 i1 si eN;go_upto_region 11 with((with_reducible show wpList _ _ _ ({dst:=_,op:=.store _ _ _,type:=_,pos:=_,after:=_,guard:=_} :: _) _ _);refine wpList_store_arrN rowVidE rfl _ _ rfl HMid4.o.names (atL_flat HAL.o hj) hmx (j*3) (encVid ⟨id,UInt8.ofNat N⟩) rfl rfl rfl (by rw [encVid_len];omega) (oneVid ⟨id,UInt8.ofNat N⟩) ?_;intro w5 hA5 hg5)
  have HMid5:=Lh (HMid4.o.name HAL.o hlt hgl hne hA5 hg5);clear hA5 hg5;have HF5:=Lh (HF.o.over HMid5.o.below);obtain⟨f0,f1,f2,sf⟩:=HF5.o.c3;obtain⟨wa2,wc2,e2,_,_,_,hcw⟩:=SRow.form (HW.o.over HMid5.o.below);cases e2
  obtain⟨bw,offw,rfl,sbw,hcw2⟩:=hcw.resolve_left (by rw [← HMM.o];omega);have w0c:=hcw2 j t HTx.o;have hN5:ops.length+1≤1099511627776:=by omega
  have hB5:=HMid5.o.below.size;have HOw:=Lh HMid5.o.own;obtain⟨ops9,hops9⟩:∃ y,y=ops++[(⟨3,file,noVid,t⟩:OpM)]:=⟨_,rfl⟩;have HO9e:=Lh hops9;have HAD2:=Lh (adds_next2 HX.o HTx.o HAD.o);rw [HN.o,← hops9] at HAD2;clear hcw hcw2 hops9;go_simp;refine wlo 8 fun hcur=>?_;repeat(first|refine lxq ?_|(refine lxl rfl ?_;go_wp2_with (first|(fail));refine⟨iov (by first|exact hcur|exact hcur.alloc hcur.size _),?_⟩))
  refine lxe ?_;clear hcur;go_wp2_with ((at_builtin;refine apD slOp rfl _ _ rfl w0.heap.size _ _ (dad _ _ _) 1 _ _ _ HOw.o rfl rfl rfl rfl hN5 (by decide) hB5 ?_;intro v9 w9 ho9 hg9);(obtain⟨p9,c9,e9,hO9⟩:=oown_more (GOwn.snoc (x:=(⟨3,file,noVid,t⟩:OpM)) ho9) HO9e.o);subst e9;have HO9:=Lh hO9;have HG9:=Lh hg9;clear ho9 hg9 hO9);go_roundw
  case rel=>exact⟨j+1,ops9,_,p9,c9,hlt,by go_num,rfl,HAD2,HMid5.o.op HO9.o HG9.o⟩
  simp [intOf];omega
 obtain rfl:m=j:=by omega
 have hal2:=HAL.o;have HA2e:=HMid.o;obtain⟨at2,hat2⟩:∃ at2,at2=at':=⟨_,rfl⟩;rw [← hat2] at HAD HA2e hal2;have HAL2:=Lh hal2;have HMd:=Lh HA2e;have htl:=ties_len R ks at2;have HTL:=Lh htl;clear HA2e hal2 hat2 sk htl;go_wp2;go_loopw [12,69] (fun v12 v69 wq=>A2Rel w0 R ks at2 ops gK gA m v12 v69 wq) (fun _ v69 _=>m - (intOf v69).toNat)
 case atStart=>exact⟨0,ops,p,c,by omega,rfl,rfl,Lh (by rw [ties_zero,List.append_nil]),HMd⟩
 obtain⟨q,ops2,p2,c2,hq,rfl,rfl,HO2,HM2⟩:=hrel;rename World=>wq;have hol2:ops2.length≤ops.length+m:=by rw [HO2.o,List.length_append];have:=HTL.o q;omega
 have sk:=HM2.o.kept.arr.lt
 by_cases hlt:q<m
 rotate_left
 ·
  obtain rfl:m=q:=by omega
  have HE:=Lh (HM2.o.own.base HB.o.size);have HBe:=Lh (bvo HB.o HM2.o.below);go_wp2;go_ret;exact⟨_,rfl,(by rw [HKS.o,HKLL.o,← HMM.o,← HAD.o];show GOwn _ _ _ _ _ _ (ops++tiesTo R ks at2 m);rw [← HO2.o];exact HE.o),HBe.o⟩
 by_cases hq0:q=0
 ·
  subst hq0;have HN:Hid (ops2=ops++tiesTo R ks at2 1):=by show _=_;rw [HO2.o,ties_zero,ties_one]
  go_wp2_with fail;refine wlo 32 fun hcur=>?_;repeat refine lxq ?_
  refine lxe ?_;clear hcur;go_wp2;go_roundw
  case rel=>exact⟨1,ops2,p2,c2,hlt,by go_num,rfl,HN,HM2.o.over (Below.refl _ _).drew⟩
  simp [intOf];omega
 obtain⟨q,rfl⟩:∃ k,q=k+1:=⟨q - 1,by omega⟩;obtain⟨x,hx⟩:=gol (xs:=ks) (i:=q) (by rw [HKL.o,← HMM.o];omega);obtain⟨y,hy⟩:=gol (xs:=ks) (i:=q+1) (by rw [HKL.o,← HMM.o];exact hlt);obtain⟨u,hu⟩:=gol (xs:=at2) (i:=q) (by rw [HAL2.o];omega);obtain⟨v,hv⟩:=gol (xs:=at2) (i:=q+1) (by rw [HAL2.o];exact hlt);have k0:=HM2.o.kept.arr.cell (keptV1_get hx);have k1:=HM2.o.kept.arr.cell (keptV1_get hy);have HX:=Lh hx;have HYY:=Lh hy;have HU:=Lh hu;have HVV:=Lh hv;have HSq:=Lh (HS.o.over HM2.o.below);have HM3:=Lh (HM2.o.over (Below.refl wq.heap.size wq).drew);have hN5:ops2.length+1≤1099511627776:=by omega
 have dq:decide ((0:Int)<(q:Int)+1)=true:=decide_eq_true (by omega);clear hu hv hq0;rcases HKI.o q x hx with hx1|⟨i,hx1,hil⟩
 ·
  subst hx1;have HN:=Lh (ties_yes (R:=R) HX.o HYY.o HU.o HVV.o (.inl (by decide)));clear hx hy;go_wp2_with fail;refine wlo 32 fun hcur=>?_;repeat refine lxq ?_
  refine lxe ?_;clear hcur;generalize wq.drew=wd at *;clear k0 k1 sk;have HNm:=Lh (show ArrT wd gA 74 (at2.flatMap encVid) by(have hnm:=HM3.o.names;rw [atL_all] at hnm;exact hnm));have n0:wd.cell? ⟨gA,q*3,none⟩=some (.int .u8 u.pid.author.toNat):=HNm.o.arr.cell ((flat_get encVid_len _ q 0 u HU.o (by decide)).trans rfl);have n1:wd.cell? ⟨gA,q*3+1,none⟩=some (.int .u16 u.pid.seq.toNat):=HNm.o.arr.cell ((flat_get encVid_len _ q 1 u HU.o (by decide)).trans rfl);have n2:wd.cell? ⟨gA,q*3+2,none⟩=some (.int .u8 u.n.toNat):=HNm.o.arr.cell ((flat_get encVid_len _ q 2 u HU.o (by decide)).trans rfl);have n3:wd.cell? ⟨gA,(q+1)*3,none⟩=some (.int .u8 v.pid.author.toNat):=HNm.o.arr.cell ((flat_get encVid_len _ (q+1) 0 v HVV.o (by decide)).trans rfl);have n4:wd.cell? ⟨gA,(q+1)*3+1,none⟩=some (.int .u16 v.pid.seq.toNat):=HNm.o.arr.cell ((flat_get encVid_len _ (q+1) 1 v HVV.o (by decide)).trans rfl);have n5:wd.cell? ⟨gA,(q+1)*3+2,none⟩=some (.int .u8 v.n.toNat):=HNm.o.arr.cell ((flat_get encVid_len _ (q+1) 2 v HVV.o (by decide)).trans rfl);have sn:=HNm.o.arr.lt;have hB5:=HM3.o.below.size;have HOw:=Lh HM3.o.own;obtain⟨ops9,hops9⟩:∃ z,z=ops2++[(⟨4,u,v,⟨#[]⟩⟩:OpM)]:=⟨_,rfl⟩;have HO9e:=Lh hops9;have HN9:Hid (ops9=ops++tiesTo R ks at2 (q+1+1)):=by show _=_;rw [HN.o,← List.append_assoc,← HO2.o];exact hops9
  clear hops9;go_wp2_with fail;refine wlo 12 fun hcur=>?_;repeat(first|refine lxq ?_|(refine lxl rfl ?_;go_wp2_with (first|(fail));refine⟨iov (by first|exact hcur|exact hcur.alloc hcur.size _),?_⟩))
  refine lxe ?_;clear hcur;go_wp2_with ((at_builtin;refine apD slOp rfl _ _ rfl w0.heap.size _ _ (dad _ _ _) 1 _ _ _ HOw.o rfl rfl rfl rfl hN5 (by decide) hB5 ?_;intro v9 w9 ho9 hg9);(obtain⟨p9,c9,e9,hO9⟩:=oown_more (GOwn.snoc (x:=(⟨4,u,v,⟨#[]⟩⟩:OpM)) ho9) HO9e.o);subst e9;have HO9:=Lh hO9;have HG9:=Lh hg9;clear ho9 hg9 hO9);go_roundw
  case rel=>exact⟨q+1+1,ops9,p9,c9,hlt,by go_num,rfl,HN9,HM3.o.op HO9.o HG9.o⟩
  simp [intOf];omega
 subst hx1;have ei:decide ((i:Int)<0)=false:=decide_eq_false (by omega);rcases HKI.o (q+1) y hy with hy1|⟨i2,hy1,hil2⟩
 ·
  subst hy1;have HN:=Lh (ties_yes (R:=R) HX.o HYY.o HU.o HVV.o (.inr (.inl (by decide))));clear hx hy;go_wp2_with fail;refine wlo 32 fun hcur=>?_;repeat refine lxq ?_
  refine lxe ?_;clear hcur;generalize wq.drew=wd at *;clear k0 k1 sk;have HNm:=Lh (show ArrT wd gA 74 (at2.flatMap encVid) by(have hnm:=HM3.o.names;rw [atL_all] at hnm;exact hnm));have n0:wd.cell? ⟨gA,q*3,none⟩=some (.int .u8 u.pid.author.toNat):=HNm.o.arr.cell ((flat_get encVid_len _ q 0 u HU.o (by decide)).trans rfl);have n1:wd.cell? ⟨gA,q*3+1,none⟩=some (.int .u16 u.pid.seq.toNat):=HNm.o.arr.cell ((flat_get encVid_len _ q 1 u HU.o (by decide)).trans rfl);have n2:wd.cell? ⟨gA,q*3+2,none⟩=some (.int .u8 u.n.toNat):=HNm.o.arr.cell ((flat_get encVid_len _ q 2 u HU.o (by decide)).trans rfl);have n3:wd.cell? ⟨gA,(q+1)*3,none⟩=some (.int .u8 v.pid.author.toNat):=HNm.o.arr.cell ((flat_get encVid_len _ (q+1) 0 v HVV.o (by decide)).trans rfl);have n4:wd.cell? ⟨gA,(q+1)*3+1,none⟩=some (.int .u16 v.pid.seq.toNat):=HNm.o.arr.cell ((flat_get encVid_len _ (q+1) 1 v HVV.o (by decide)).trans rfl);have n5:wd.cell? ⟨gA,(q+1)*3+2,none⟩=some (.int .u8 v.n.toNat):=HNm.o.arr.cell ((flat_get encVid_len _ (q+1) 2 v HVV.o (by decide)).trans rfl);have sn:=HNm.o.arr.lt;have hB5:=HM3.o.below.size;have HOw:=Lh HM3.o.own;obtain⟨ops9,hops9⟩:∃ z,z=ops2++[(⟨4,u,v,⟨#[]⟩⟩:OpM)]:=⟨_,rfl⟩;have HO9e:=Lh hops9;have HN9:Hid (ops9=ops++tiesTo R ks at2 (q+1+1)):=by show _=_;rw [HN.o,← List.append_assoc,← HO2.o];exact hops9
  clear hops9;go_wp2_with fail;refine wlo 12 fun hcur=>?_;repeat(first|refine lxq ?_|(refine lxl rfl ?_;go_wp2_with (first|(fail));refine⟨iov (by first|exact hcur|exact hcur.alloc hcur.size _),?_⟩))
  refine lxe ?_;clear hcur;go_wp2_with ((at_builtin;refine apD slOp rfl _ _ rfl w0.heap.size _ _ (dad _ _ _) 1 _ _ _ HOw.o rfl rfl rfl rfl hN5 (by decide) hB5 ?_;intro v9 w9 ho9 hg9);(obtain⟨p9,c9,e9,hO9⟩:=oown_more (GOwn.snoc (x:=(⟨4,u,v,⟨#[]⟩⟩:OpM)) ho9) HO9e.o);subst e9;have HO9:=Lh hO9;have HG9:=Lh hg9;clear ho9 hg9 hO9);go_roundw
  case rel=>exact⟨q+1+1,ops9,p9,c9,hlt,by go_num,rfl,HN9,HM3.o.op HO9.o HG9.o⟩
  simp [intOf];omega
 subst hy1;have ei2:decide ((i2:Int)<0)=false:=decide_eq_false (by omega);clear hx hy;cases hb:befB R i i2 with
 | true =>
  have HBV:=Lh hb;have HN:=Lh (ties_no (R:=R) (at':=at2) HX.o HYY.o (Int.natCast_nonneg i) (Int.natCast_nonneg i2) hb);clear hb;go_wp2_with fail;refine wlo 32 fun hcur=>?_;repeat(first|refine lxq ?_|(refine lxl rfl ?_;go_wp2_with (first|(go_at_call 117;(with_reducible refine(srelV_any s l R _ (HSq.o.over hcur) (by omega)).mono ?_);rintro e w' ⟨⟨r,rfl,hr⟩,rfl⟩;have HRL:=Lh hr;clear hr)|(go_at_call 150;(with_reducible refine(rchBefore_any r l.length i i2 R _ HRL.o (by omega) (by omega)).mono ?_);rintro e w' ⟨rfl,rfl⟩;rw [HBV.o]));refine⟨iov hcur,?_⟩))
  refine lxe ?_;clear hcur;go_wp2;go_roundw
  case rel=>exact⟨q+1+1,ops2,p2,c2,hlt,by go_num,rfl,Lh (by rw [HN.o];exact HO2.o),HM3⟩
  simp [intOf];omega
 | false =>
  have HBV:=Lh hb;have HN:=Lh (ties_yes (R:=R) HX.o HYY.o HU.o HVV.o (.inr (.inr hb)));clear hb;go_wp2_with fail;refine wlo 32 fun hcur=>?_;repeat(first|refine lxq ?_|(refine lxl rfl ?_;go_wp2_with (first|(go_at_call 117;(with_reducible refine(srelV_any s l R _ (HSq.o.over hcur) (by omega)).mono ?_);rintro e w' ⟨⟨r,rfl,hr⟩,rfl⟩;have HRL:=Lh hr;clear hr)|(go_at_call 150;(with_reducible refine(rchBefore_any r l.length i i2 R _ HRL.o (by omega) (by omega)).mono ?_);rintro e w' ⟨rfl,rfl⟩;rw [HBV.o]));refine⟨iov hcur,?_⟩))
  refine lxe ?_;clear hcur;generalize wq.drew=wd at *;clear k0 k1 sk;have HNm:=Lh (show ArrT wd gA 74 (at2.flatMap encVid) by(have hnm:=HM3.o.names;rw [atL_all] at hnm;exact hnm));have n0:wd.cell? ⟨gA,q*3,none⟩=some (.int .u8 u.pid.author.toNat):=HNm.o.arr.cell ((flat_get encVid_len _ q 0 u HU.o (by decide)).trans rfl);have n1:wd.cell? ⟨gA,q*3+1,none⟩=some (.int .u16 u.pid.seq.toNat):=HNm.o.arr.cell ((flat_get encVid_len _ q 1 u HU.o (by decide)).trans rfl);have n2:wd.cell? ⟨gA,q*3+2,none⟩=some (.int .u8 u.n.toNat):=HNm.o.arr.cell ((flat_get encVid_len _ q 2 u HU.o (by decide)).trans rfl);have n3:wd.cell? ⟨gA,(q+1)*3,none⟩=some (.int .u8 v.pid.author.toNat):=HNm.o.arr.cell ((flat_get encVid_len _ (q+1) 0 v HVV.o (by decide)).trans rfl);have n4:wd.cell? ⟨gA,(q+1)*3+1,none⟩=some (.int .u16 v.pid.seq.toNat):=HNm.o.arr.cell ((flat_get encVid_len _ (q+1) 1 v HVV.o (by decide)).trans rfl);have n5:wd.cell? ⟨gA,(q+1)*3+2,none⟩=some (.int .u8 v.n.toNat):=HNm.o.arr.cell ((flat_get encVid_len _ (q+1) 2 v HVV.o (by decide)).trans rfl);have sn:=HNm.o.arr.lt;have hB5:=HM3.o.below.size;have HOw:=Lh HM3.o.own;obtain⟨ops9,hops9⟩:∃ z,z=ops2++[(⟨4,u,v,⟨#[]⟩⟩:OpM)]:=⟨_,rfl⟩;have HO9e:=Lh hops9;have HN9:Hid (ops9=ops++tiesTo R ks at2 (q+1+1)):=by show _=_;rw [HN.o,← List.append_assoc,← HO2.o];exact hops9
  clear hops9;go_wp2_with fail;refine wlo 12 fun hcur=>?_;repeat(first|refine lxq ?_|(refine lxl rfl ?_;go_wp2_with (first|(fail));refine⟨iov (by first|exact hcur|exact hcur.alloc hcur.size _),?_⟩))
  refine lxe ?_;clear hcur;go_wp2_with ((at_builtin;refine apD slOp rfl _ _ rfl w0.heap.size _ _ (dad _ _ _) 1 _ _ _ HOw.o rfl rfl rfl rfl hN5 (by decide) hB5 ?_;intro v9 w9 ho9 hg9);(obtain⟨p9,c9,e9,hO9⟩:=oown_more (GOwn.snoc (x:=(⟨4,u,v,⟨#[]⟩⟩:OpM)) ho9) HO9e.o);subst e9;have HO9:=Lh hO9;have HG9:=Lh hg9;clear ho9 hg9 hO9);go_roundw
  case rel=>exact⟨q+1+1,ops9,p9,c9,hlt,by go_num,rfl,HN9,HM3.o.op HO9.o HG9.o⟩
  simp [intOf];omega
end
end Go.Proofs.YtjccmcgglfncdaaGreatDoor
