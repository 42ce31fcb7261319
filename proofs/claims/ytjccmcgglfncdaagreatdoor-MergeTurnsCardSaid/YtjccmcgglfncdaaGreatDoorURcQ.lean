/- What is proved: MergeTurns, for every input; of the listed tables the walk needs the powers of ten. -/
import Derived.Test.YtjccmcgglfncdaaGreatDoorURcP
import Derived.Test.YtjccmcgglfncdaaGreatDoorURtR
set_option linter.unusedVariables false
set_option linter.unusedSimpArgs false
namespace Go.Proofs.YtjccmcgglfncdaaGreatDoor
open Go
variable{a b:ByteArray}{t:List FileM}{L:List PatchM}
theorem lessR:∀(x y:List UInt8),Op.bytesLess x y=decide (x<y)
 | [],[]=>by simp [Op.bytesLess]
 | [],b :: y=>by simp [Op.bytesLess]
 | a :: x,[]=>by simp [Op.bytesLess]
 | a :: x,b :: y=>by rw [Op.bytesLess,lessR x y];rw [Bool.eq_iff_iff];simp only [Bool.or_eq_true,Bool.and_eq_true,decide_eq_true_eq,beq_iff_eq,List.cons_lt_cons_iff]
theorem rcB_iff:ltB a b=true↔a.toList<b.toList:=by unfold ltB;rw [lessR];simp
theorem rcB_trans{c:ByteArray}(h:ltB a b=true)(h':ltB b c=true):ltB a c=true:=by rw [rcB_iff] at h h' ⊢;exact List.lt_trans h h'
theorem rcB_irrefl(a:ByteArray):ltB a a=false:=by
 cases h:ltB a a with
 | false=>rfl
 | true=>exact absurd (rcB_iff.1 h) (List.lt_irrefl _)
theorem rcB_asymm(h:ltB a b=true):ltB b a=false:=by
 cases h':ltB b a with
 | false=>rfl
 | true=>have:=rcB_trans h h';rw [rcB_irrefl] at this;cases this
structure IsTree (L:List PatchM) (t:List FileM):Prop where
 perm:t.Perm ((allM L).map (fileT L))
 rise:t.Pairwise fun a b=>ltB a.name b.name=true
theorem tree_one{u:List FileM}(h:IsTree L t)(h':IsTree L u):t=u:=by refine(h.perm.trans h'.perm.symm).eq_of_pairwise (le:=fun a b=>ltB a.name b.name=true) (fun a b _ _ h1 h2 => ?_) h.rise h'.rise;rw [rcB_asymm h1] at h2;cases h2
theorem tree_same{A B:List PatchM}(hl:linesM A=linesM B)(hr:relM A=relM B)(ha:allM A=allM B){u:List FileM}(h:IsTree A t)(h':IsTree B u):t=u:=by
 have hf:fileT A=fileT B:=by funext n;unfold fileT;rw [hl,hr]
 refine tree_one h ⟨?_,h'.rise⟩;rw [ha,hf];exact h'.perm
def smallF(f:FileM):Bool:=decide (f.lines.length≤60)
theorem fileOk_plain(hw:WfG L)(n:NameM):fileOk (fileT L n)=(plainF (fileT L n) && smallF (fileT L n)):=by have h:=lines_all hw n.file;unfold fileOk plainF smallF;show(nameOk n.name && (decide (((n.also.map fun t=>(⟨t.toArray⟩:ByteArray))).length=0) && (decide ((lnSeen (linesM L n.file) (relM L n.file)).length≤60) && (lnSeen (linesM L n.file) (relM L n.file)).all lineOk)))=((nameOk n.name && (decide (((n.also.map fun t=>(⟨t.toArray⟩:ByteArray))).length=0) && (lnSeen (linesM L n.file) (relM L n.file)).all fun t => !markOk t)) && decide ((lnSeen (linesM L n.file) (relM L n.file)).length≤60));rw [h];cases nameOk n.name <;> cases decide ((n.also.map fun t=>(⟨t.toArray⟩:ByteArray)).length=0) <;> cases decide ((lnSeen (linesM L n.file) (relM L n.file)).length≤60) <;> cases ((lnSeen (linesM L n.file) (relM L n.file)).all fun t => !markOk t) <;> rfl
theorem tree_good(hr:t.Pairwise fun a b=>ltB a.name b.name=true):treeGood t=(decide (t.length≤16) && t.all fileOk):=by
 unfold treeGood;congr 1;rw [Bool.eq_iff_iff,List.all_eq_true,List.all_eq_true];have hat:∀ i (f:FileM),t[i]? = some f→goodAt t i=fileOk f:=by
  intro i f hf;cases i with
  | zero=>exact goodAt_zero hf
  | succ i =>have h2:=(List.getElem?_eq_some_iff.1 hf).1;have hg:=List.getElem?_eq_getElem (l:=t) (i:=i) (by omega);rw [goodAt_succ hf hg];have h3:=List.pairwise_iff_getElem.1 hr i (i+1) (by omega) h2 (by omega);rw [(List.getElem?_eq_some_iff.1 hf).2] at h3;rw [h3,Bool.and_true]
 constructor
 ·
  intro h f hf;obtain⟨i,hi⟩:=List.getElem?_of_mem hf;have:=h i (List.mem_range.2 (List.getElem?_eq_some_iff.1 hi).1)
  rwa [hat i f hi] at this
 intro h i hi;have hf:=List.getElem?_eq_getElem (List.mem_range.1 hi);rw [hat i _ hf];exact h _ (List.getElem_mem _)
theorem tree_law(hw:WfG L)(h:IsTree L t):cleanM L=t.all plainF∧treeGood t=(t.all plainF && (decide (t.length≤16) && t.all smallF)):=by
 have hmem:∀ f,f∈t↔∃ n∈allM L,fileT L n=f:=fun f=>by rw [h.perm.mem_iff,List.mem_map]
 have hpl:t.all plainF=plainM L:=by unfold plainM;rw [Bool.eq_iff_iff,List.all_eq_true,List.all_eq_true];exact⟨fun q n hn=>q _ ((hmem _).2 ⟨n,hn,rfl⟩),fun q f hf=>by obtain⟨n,hn,rfl⟩:=(hmem f).1 hf;exact q n hn⟩
 refine⟨by rw [hpl];exact clean_plain hw,?_⟩;rw [tree_good h.rise];have hall:t.all fileOk=(t.all plainF && t.all smallF):=by
  rw [Bool.eq_iff_iff,Bool.and_eq_true,List.all_eq_true,List.all_eq_true,List.all_eq_true];constructor
  ·
   intro q;refine⟨fun f hf => ?_,fun f hf => ?_⟩
   · have:=q f hf;obtain⟨n,hn,rfl⟩:=(hmem f).1 hf;rw [fileOk_plain hw,Bool.and_eq_true] at this;exact this.1
   have:=q f hf;obtain⟨n,hn,rfl⟩:=(hmem f).1 hf;rw [fileOk_plain hw,Bool.and_eq_true] at this;exact this.2
  rintro⟨q1,q2⟩ f hf;have h1:=q1 f hf;have h2:=q2 f hf;obtain⟨n,hn,rfl⟩:=(hmem f).1 hf;rw [fileOk_plain hw,h1,h2];rfl
 rw [hall];cases t.all plainF <;> cases decide (t.length≤16) <;> cases t.all smallF <;> rfl
end Go.Proofs.YtjccmcgglfncdaaGreatDoor
