/- The tree that is shown, plain: sorted by names, no two the same. The tree by insertion, and the flaws, plain. How large the texts of a tree are, plain. -/
import Derived.Test.YtanfebljiblhbaaGreatDoorZRcP
import Derived.Test.YtanfebljiblhbaaGreatDoorZRtR
set_option linter.unusedVariables false
set_option linter.unusedSimpArgs false
namespace Go.Proofs.YtanfebljiblhbaaGreatDoor
open Go

theorem lessR:∀(x y:List UInt8),Op.bytesLess x y=decide (x<y)
 | [],[]=>by simp [Op.bytesLess]
 | [],b :: y=>by simp [Op.bytesLess]
 | a :: x,[]=>by simp [Op.bytesLess]
 | a :: x,b :: y=>by
  rw [Op.bytesLess,lessR x y]
  rw [Bool.eq_iff_iff]
  simp only [Bool.or_eq_true,Bool.and_eq_true,decide_eq_true_eq,beq_iff_eq,List.cons_lt_cons_iff]
theorem rcB_iff{a b:ByteArray}:ltB a b=true↔a.toList<b.toList:=by unfold ltB;rw [lessR];simp
theorem rcB_trans{a b c:ByteArray}(h:ltB a b=true)(h':ltB b c=true):ltB a c=true:=by
 rw [rcB_iff] at h h' ⊢;exact List.lt_trans h h'
theorem rcB_irrefl(a:ByteArray):ltB a a=false:=by
 cases h:ltB a a with
 | false=>rfl
 | true=>exact absurd (rcB_iff.1 h) (List.lt_irrefl _)
theorem rcB_asymm{a b:ByteArray}(h:ltB a b=true):ltB b a=false:=by
 cases h':ltB b a with
 | false=>rfl
 | true=>have:=rcB_trans h h';rw [rcB_irrefl] at this;cases this
/-- the tree of a graph -/
structure IsTree (L:List PatchM) (t:List FileM):Prop where
 perm:t.Perm ((allM L).map (fileT L))
 rise:t.Pairwise fun a b=>ltB a.name b.name=true
/-- there is one tree -/
theorem tree_one{L:List PatchM}{t u:List FileM}(h:IsTree L t)(h':IsTree L u):t=u:=by
 refine(h.perm.trans h'.perm.symm).eq_of_pairwise (le:=fun a b=>ltB a.name b.name=true) (fun a b _ _ h1 h2 => ?_) h.rise h'.rise
 rw [rcB_asymm h1] at h2;cases h2
/-- of the same patches the same tree -/
theorem tree_same{A B:List PatchM}(hl:linesM A=linesM B)(hr:relM A=relM B)(ha:allM A=allM B){t u:List FileM}(h:IsTree A t)(h':IsTree B u):t=u:=by
 have hf:fileT A=fileT B:=by funext n;unfold fileT;rw [hl,hr]
 refine tree_one h ⟨?_,h'.rise⟩
 rw [ha,hf];exact h'.perm
def smallF(f:FileM):Bool:=decide (f.lines.length≤60)
theorem fileOk_plain{L:List PatchM}(hw:WfG L)(n:NameM):fileOk (fileT L n)=(plainF (fileT L n) && smallF (fileT L n)):=by
 have h:=lines_all hw n.file
 unfold fileOk plainF smallF
 show(nameOk n.name && (decide (((n.also.map fun t=>(⟨t.toArray⟩:ByteArray))).length=0) && (decide ((lnSeen (linesM L n.file) (relM L n.file)).length≤60) && (lnSeen (linesM L n.file) (relM L n.file)).all lineOk)))=((nameOk n.name && (decide (((n.also.map fun t=>(⟨t.toArray⟩:ByteArray))).length=0) && (lnSeen (linesM L n.file) (relM L n.file)).all fun t => !markOk t)) && decide ((lnSeen (linesM L n.file) (relM L n.file)).length≤60))
 rw [h]
 cases nameOk n.name <;> cases decide ((n.also.map fun t=>(⟨t.toArray⟩:ByteArray)).length=0) <;> cases decide ((lnSeen (linesM L n.file) (relM L n.file)).length≤60) <;> cases ((lnSeen (linesM L n.file) (relM L n.file)).all fun t => !markOk t) <;> rfl
/-- a tree's files are good just if each one is, where their names rise -/
theorem tree_good{t:List FileM}(hr:t.Pairwise fun a b=>ltB a.name b.name=true):treeGood t=(decide (t.length≤16) && t.all fileOk):=by
 unfold treeGood
 congr 1
 rw [Bool.eq_iff_iff,List.all_eq_true,List.all_eq_true]
 have hat:∀ i (f:FileM),t[i]? = some f→goodAt t i=fileOk f:=by
  intro i f hf
  cases i with
  | zero=>exact goodAt_zero hf
  | succ i =>
   have h2:=(List.getElem?_eq_some_iff.1 hf).1
   have hg:=List.getElem?_eq_getElem (l:=t) (i:=i) (by omega)
   rw [goodAt_succ hf hg]
   have h3:=List.pairwise_iff_getElem.1 hr i (i+1) (by omega) h2 (by omega)
   rw [(List.getElem?_eq_some_iff.1 hf).2] at h3
   rw [h3,Bool.and_true]
 constructor
 ·
  intro h f hf
  obtain⟨i,hi⟩:=List.getElem?_of_mem hf
  have:=h i (List.mem_range.2 (List.getElem?_eq_some_iff.1 hi).1)
  rwa [hat i f hi] at this
 ·
  intro h i hi
  have hf:=List.getElem?_eq_getElem (List.mem_range.1 hi)
  rw [hat i _ hf]
  exact h _ (List.getElem_mem _)
/-- what the law asks of a tree -/
theorem tree_law{L:List PatchM}(hw:WfG L){t:List FileM}(h:IsTree L t):cleanM L=t.all plainF∧treeGood t=(t.all plainF && (decide (t.length≤16) && t.all smallF)):=by
 have hmem:∀ f,f∈t↔∃ n∈allM L,fileT L n=f:=fun f=>by rw [h.perm.mem_iff,List.mem_map]
 have hpl:t.all plainF=plainM L:=by
  unfold plainM
  rw [Bool.eq_iff_iff,List.all_eq_true,List.all_eq_true]
  exact⟨fun q n hn=>q _ ((hmem _).2 ⟨n,hn,rfl⟩),fun q f hf=>by obtain⟨n,hn,rfl⟩:=(hmem f).1 hf;exact q n hn⟩
 refine⟨by rw [hpl];exact clean_plain hw,?_⟩
 rw [tree_good h.rise]
 have hall:t.all fileOk=(t.all plainF && t.all smallF):=by
  rw [Bool.eq_iff_iff,Bool.and_eq_true,List.all_eq_true,List.all_eq_true,List.all_eq_true]
  constructor
  ·
   intro q
   refine⟨fun f hf => ?_,fun f hf => ?_⟩
   ·
    have:=q f hf
    obtain⟨n,hn,rfl⟩:=(hmem f).1 hf
    rw [fileOk_plain hw,Bool.and_eq_true] at this
    exact this.1
   ·
    have:=q f hf
    obtain⟨n,hn,rfl⟩:=(hmem f).1 hf
    rw [fileOk_plain hw,Bool.and_eq_true] at this
    exact this.2
  ·
   rintro⟨q1,q2⟩ f hf
   have h1:=q1 f hf
   have h2:=q2 f hf
   obtain⟨n,hn,rfl⟩:=(hmem f).1 hf
   rw [fileOk_plain hw,h1,h2];rfl
 rw [hall]
 cases t.all plainF <;> cases decide (t.length≤16) <;> cases t.all smallF <;> rfl
end Go.Proofs.YtanfebljiblhbaaGreatDoor
namespace Go.Proofs.YtanfebljiblhbaaGreatDoor
open Go

theorem rcB_total{a b:ByteArray}(h:ltB a b=false)(h':a≠b):ltB b a=true:=by
 have h1:¬ a.toList<b.toList:=fun q=>by rw [rcB_iff.2 q] at h;cases h
 rw [rcB_iff]
 have h2:a.toList≠b.toList:=fun q=>h' (ba_list.1 q)
 rcases List.le_iff_lt_or_eq.1 (List.not_lt.1 h1) with q|q
 ·
  exact q
 ·
  exact absurd q.symm h2
/-! ### what is at odds -/
structure FlawM where
 kind:UInt8
 file:VidM
deriving DecidableEq
noncomputable def flawsN(L:List PatchM)(n:NameM):List FlawM:=(if 0<oddN L n then [⟨1,n.file⟩] else [])++n.flaws.map fun k=>⟨k,n.file⟩
noncomputable def flawsM(L:List PatchM):List FlawM:=(allM L).flatMap (flawsN L)
theorem flawsM_nil(L:List PatchM):decide (flawsM L=[])=cleanM L:=by
 unfold cleanM flawsM
 rw [Bool.eq_iff_iff,decide_eq_true_eq,List.flatMap_eq_nil_iff,List.all_eq_true]
 refine forall_congr' fun n=>forall_congr' fun _ => ?_
 unfold flawsN
 rw [List.append_eq_nil_iff,List.map_eq_nil_iff,Bool.and_eq_true,decide_eq_true_eq,decide_eq_true_eq]
 refine and_congr ?_ Iff.rfl
 by_cases h:0<oddN L n
 ·
  rw [if_pos h]
  exact⟨fun q=>(by cases q),fun q=>(by omega)⟩
 ·
  rw [if_neg h]
  exact⟨fun _=>(by omega),fun _=>rfl⟩
theorem flaws_same{A B:List PatchM}(hl:linesM A=linesM B)(hr:relM A=relM B)(ha:allM A=allM B):flawsM A=flawsM B:=by
 have hf:flawsN A=flawsN B:=by funext n;unfold flawsN oddN;rw [hl,hr]
 unfold flawsM
 rw [ha,hf]
end Go.Proofs.YtanfebljiblhbaaGreatDoor
namespace Go.Proofs.YtanfebljiblhbaaGreatDoor
open Go

theorem dec_lenF:∀ u:Nat,(Lib.decDigits u).length≤u+1:=by
 intro u
 induction u using Nat.strongRecOn with
 | _ u ih =>
  rw [Lib.decDigits]
  split
  ·
   simp
  ·
   rename_i h
   rw [List.length_append]
   have:=ih (u / 10) (by omega)
   simp only [List.length_cons,List.length_nil]
   omega
theorem textB_few(v:VidM):(textB v).size≤70000:=by
 have h1:=dec_lenF v.pid.author.toNat
 have h2:=dec_lenF v.pid.seq.toNat
 have h3:=dec_lenF v.n.toNat
 have h4:=v.pid.author.toNat_lt
 have h5:=v.pid.seq.toNat_lt
 have h6:=v.n.toNat_lt
 show(textL v).toArray.size≤70000
 unfold textL
 simp only [List.size_toArray,List.length_append,List.length_cons]
 omega
theorem name_short{s:ByteArray}(h:nameOk s=true):s.size≤16:=by
 unfold nameOk at h
 simp only [Bool.and_eq_true,decide_eq_true_eq] at h
 exact h.2.2
theorem compact_in{l:List (List UInt8)}{x:List UInt8}(h:x∈Lib.compact l):x∈l:=by
 unfold Lib.compact Lib.compactUpTo at h
 obtain⟨i,hi,rfl⟩:=List.mem_map.1 h
 have h1:=List.mem_range.1 (List.mem_filter.1 hi).1
 rw [getElem!_pos l.toArray i (by simpa using h1)]
 simp
theorem also_one{L:List PatchM}{f:VidM}(c:ByteArray→Nat):∀ {l:List VertM},(∀ x∈l,nameOk x.text=true)→∀ t∈(nameOne L c f l).also,t.length≤16
 | [],_=>fun t ht=>by cases ht
 | x :: l,h=>fun t ht=>by
  have h1:t∈alsoM (x :: l) x.text:=ht
  unfold alsoM at h1
  have h2:=List.mem_mergeSort.1 (compact_in h1)
  unfold othersM at h2
  obtain⟨y,hy,rfl⟩:=List.mem_map.1 h2
  exact name_short (h y (List.mem_filter.1 hy).1)
theorem also_all{L:List PatchM}(hw:WfG L):∀ k,k≤(filesM L).length→∀ n∈(allTo L k).1,∀ t∈n.also,t.length≤16
 | 0,_=>fun n hn=>by rw [allTo_zero] at hn;cases hn
 | k+1,hk=>fun n hn=>by
  have hf:=List.getElem?_eq_getElem (l:=filesM L) (i:=k) (by omega)
  rw [allTo_succ hf] at hn
  unfold stepN at hn
  split at hn
  ·
   exact also_all hw k (by omega) n hn
  ·
   rcases List.mem_append.1 hn with hn|hn
   ·
    exact also_all hw k (by omega) n hn
   ·
    rw [List.mem_singleton.1 hn]
    exact also_one _ fun x hx=>name_ok hw hx
theorem tree_sizes{L:List PatchM}(hw:WfG L){t:List FileM}(h:IsTree L t):SzT t:=by
 intro f hf
 rw [h.perm.mem_iff] at hf
 obtain⟨n,hn,rfl⟩:=List.mem_map.1 hf
 have hinv:=inv_all hw (filesM L).length (Nat.le_refl _)
 have hn':n∈(allTo L (filesM L).length).1:=hn
 have h0:=textB_few n.file
 have h1:(tilde++textB n.file).size≤70001:=by
  rw [ByteArray.size_append]
  have:tilde.size=1:=rfl
  omega
 refine⟨?_,fun x hx => ?_,fun x hx => ?_⟩
 ·
  show n.name.size≤maxLen
  unfold maxLen
  rcases hinv.forms n hn' with⟨e,_⟩|⟨e,_⟩|⟨t,ht,e,_⟩
  ·
   rw [e];omega
  ·
   have:=name_short e;omega
  ·
   have:=name_short ht
   rw [e,ByteArray.size_append];omega
 ·
  obtain⟨t,ht,rfl⟩:=List.mem_map.1 hx
  have:=also_all hw _ (Nat.le_refl _) n hn' t ht
  show t.toArray.size≤maxLen
  unfold maxLen
  simp only [List.size_toArray]
  omega
 ·
  have hl:=wl_lines_bare hw (wf_len hw) n.file
  unfold maxLen
  rcases seen_each hl x hx with hm|hm
  ·
   unfold isMark at hm
   simp only [Bool.or_eq_true,decide_eq_true_eq] at hm
   rcases hm with((rfl|rfl)|rfl)|rfl <;> decide
  ·
   have:=alive_line hw x hm
   unfold lineOk at this
   simp only [Bool.and_eq_true,decide_eq_true_eq] at this
   omega
end Go.Proofs.YtanfebljiblhbaaGreatDoor
