/- Part of the proof that any graph's tree, and what is at odds in it, are as the document says. No conditions. -/
import Derived.Test.YtanfebljiblhbaaGreatDoorURcP
import Derived.Test.YtanfebljiblhbaaGreatDoorURtR
set_option linter.unusedVariables false
set_option linter.unusedSimpArgs false
namespace Go.Proofs.YtanfebljiblhbaaGreatDoor
open Go
section
variable{a b:ByteArray}
theorem lessR:∀(x y:List UInt8),Op.bytesLess x y=decide (x<y)
 | [],[]=>by simp [Op.bytesLess]
 | [],b :: y=>by simp [Op.bytesLess]
 | a :: x,[]=>by simp [Op.bytesLess]
 | a :: x,b :: y=>by rw [Op.bytesLess,lessR x y];rw [Bool.eq_iff_iff];simp only [Bool.or_eq_true,Bool.and_eq_true,decide_eq_true_eq,beq_iff_eq,List.cons_lt_cons_iff]
theorem rcB_iff:ltB a b=true↔a.toList<b.toList:=by unfold ltB;rw [lessR];simp
theorem rcB_trans{c:ByteArray}(h:ltB a b=true)(h':ltB b c=true):ltB a c=true:=by rw [rcB_iff] at h h' ⊢;exact List.lt_trans h h'
theorem rcB_irrefl(a:ByteArray):ltB a a=false:=by
 cases h:ltB a a with
 | false=>rfl
 | true=>exact absurd (rcB_iff.1 h) (List.lt_irrefl _)
theorem rcB_asymm(h:ltB a b=true):ltB b a=false:=by
 cases h':ltB b a with
 | false=>rfl
 | true=>have:=rcB_trans h h';rw [rcB_irrefl] at this;cases this
structure IsTree (L:List PatchM) (t:List FileM):Prop where
 perm:t.Perm ((allM L).map (fileT L))
 rise:t.Pairwise fun a b=>ltB a.name b.name=true
theorem tree_one{L:List PatchM}{t u:List FileM}(h:IsTree L t)(h':IsTree L u):t=u:=by refine(h.perm.trans h'.perm.symm).eq_of_pairwise (le:=fun a b=>ltB a.name b.name=true) (fun a b _ _ h1 h2 => ?_) h.rise h'.rise;rw [rcB_asymm h1] at h2;cases h2
end
theorem rcB_total{a b:ByteArray}(h:ltB a b=false)(h':a≠b):ltB b a=true:=by
 have h1:¬ a.toList<b.toList:=fun q=>by rw [rcB_iff.2 q] at h;cases h
 rw [rcB_iff];have h2:a.toList≠b.toList:=fun q=>h' (ba_list.1 q);rcases List.le_iff_lt_or_eq.1 (List.not_lt.1 h1) with q|q
 · exact q
 exact absurd q.symm h2
def putF(f:FileM):List FileM→List FileM
 | []=>[f]
 | x :: r=>if ltB f.name x.name=true then f :: x :: r else x :: putF f r
theorem putF_perm(f:FileM):∀ l,(putF f l).Perm (f :: l)
 | []=>List.Perm.refl _
 | x :: r=>by
  rw [putF];split
  · exact List.Perm.refl _
  exact((putF_perm f r).cons x).trans (List.Perm.swap f x r)
theorem putF_rise(f:FileM):∀ {l:List FileM},(l.Pairwise fun a b=>ltB a.name b.name=true)→(∀ x∈l,f.name≠x.name)→(putF f l).Pairwise fun a b=>ltB a.name b.name=true
 | [],_,_=>List.pairwise_singleton _ _
 | x :: r,h,hn=>by
  obtain⟨h1,h2⟩:=List.pairwise_cons.1 h;rw [putF];split
  ·
   rename_i hl;refine List.pairwise_cons.2 ⟨fun y hy => ?_,h⟩;rcases List.mem_cons.1 hy with rfl|hy
   · exact hl
   exact rcB_trans hl (h1 y hy)
  rename_i hl;have hl:ltB f.name x.name=false:=by simpa using hl
  have hx:=rcB_total hl (hn x (List.mem_cons_self ..));refine List.pairwise_cons.2 ⟨fun y hy => ?_,putF_rise f h2 fun y hy=>hn y (List.mem_cons_of_mem _ hy)⟩;rcases List.mem_cons.1 ((putF_perm f r).mem_iff.1 hy) with rfl|hy
  · exact hx
  exact h1 y hy
noncomputable def treeTo(L:List PatchM)(ns:List NameM):List FileM:=ns.foldl (fun t n=>putF (fileT L n) t) []
theorem treeTo_snoc(L:List PatchM)(ns:List NameM)(n:NameM):treeTo L (ns++[n])=putF (fileT L n) (treeTo L ns):=by unfold treeTo;rw [List.foldl_append];rfl
theorem treeTo_perm(L:List PatchM):∀(ns:List NameM) (t:List FileM),(ns.foldl (fun t n=>putF (fileT L n) t) t).Perm (t++ns.map (fileT L))
 | [],t=>by simp
 | n :: ns,t=>by rw [List.foldl_cons];refine(treeTo_perm L ns (putF (fileT L n) t)).trans ?_;refine((putF_perm (fileT L n) t).append_right (ns.map (fileT L))).trans ?_;rw [List.map_cons,List.cons_append];exact List.perm_middle.symm
theorem treeTo_rise(L:List PatchM):∀(ns:List NameM) (t:List FileM),(t.Pairwise fun a b=>ltB a.name b.name=true)→(ns.Pairwise fun a b=>a.name≠b.name)→(∀ x∈t,∀ n∈ns,n.name≠x.name)→(ns.foldl (fun t n=>putF (fileT L n) t) t).Pairwise fun a b=>ltB a.name b.name=true
 | [],t,h,_,_=>h
 | n :: ns,t,h,hu,hd=>by
  obtain⟨u1,u2⟩:=List.pairwise_cons.1 hu;rw [List.foldl_cons];refine treeTo_rise L ns _ (putF_rise _ h fun x hx=>hd x hx n (List.mem_cons_self ..)) u2 fun x hx m hm => ?_;rcases List.mem_cons.1 ((putF_perm (fileT L n) t).mem_iff.1 hx) with rfl|hx
  · exact Ne.symm (u1 m hm)
  exact hd x hx m (List.mem_cons_of_mem _ hm)
theorem treeTo_is{L:List PatchM}(hw:WfG L):IsTree L (treeTo L (allM L)):=by
 refine⟨?_,treeTo_rise L _ [] List.Pairwise.nil (unlike_all hw).uniq fun x hx=>absurd hx List.not_mem_nil⟩;have:=treeTo_perm L (allM L) []
 rwa [List.nil_append] at this
structure FlawM where
 kind:UInt8
 file:VidM
deriving DecidableEq
noncomputable def flawsN(L:List PatchM)(n:NameM):List FlawM:=(if 0<oddN L n then [⟨1,n.file⟩] else [])++n.flaws.map fun k=>⟨k,n.file⟩
noncomputable def flawsM(L:List PatchM):List FlawM:=(allM L).flatMap (flawsN L)
end Go.Proofs.YtanfebljiblhbaaGreatDoor
namespace Go.Proofs.YtanfebljiblhbaaGreatDoor
open Go
variable{j:Nat}
section
variable {α β : Type} {p : α → Bool} {y : α}
def insP(p:α→Bool)(y:α):List α→List α
 | []=>[y]
 | x :: r=>if p x=true then y :: x :: r else x :: insP p y r
theorem insP_none:∀ {a:List α},a.any p=false→insP p y a=a++[y]
 | [],_=>rfl
 | x :: r,h=>by rw [List.any_cons,Bool.or_eq_false_iff] at h;rw [insP,if_neg (by rw [h.1];decide),insP_none h.2];rfl
theorem insP_at{z:α}(hz:p z=true):∀ {a:List α},a.any p=false→insP p y (a++[z])=a++[y,z]
 | [],_=>by rw [List.nil_append,insP,if_pos hz];rfl
 | x :: r,h=>by rw [List.any_cons,Bool.or_eq_false_iff] at h;rw [List.cons_append,insP,if_neg (by rw [h.1];decide),insP_at hz h.2];rfl
theorem insP_snoc{z:α}:∀ {a:List α},a.any p=true→insP p y (a++[z])=insP p y a++[z]
 | [],h=>by cases h
 | x :: r,h=>by
  rw [List.cons_append,insP,insP]
  by_cases hx:p x=true
  · rw [if_pos hx,if_pos hx];rfl
  rw [if_neg hx,if_neg hx];rw [List.any_cons] at h;have hr:r.any p=true:=by simpa [hx] using h
  rw [insP_snoc hr];rfl
def anyTo(p:α→Bool)(l:List α)(j:Nat):Bool:=(l.take j).any p
def insQ(p:α→Bool)(y:α)(l:List α)(j:Nat):List α:=if anyTo p l j=true then insP p y (l.take j) else l.take j
theorem insQ_zero(l:List α):insQ p y l 0=[]:=by unfold insQ anyTo;rw [List.take_zero];rfl
theorem anyTo_zero(l:List α):anyTo p l 0=false:=rfl
theorem anyTo_succ{l:List α}{z:α}(h:l[j]? = some z):anyTo p l (j+1)=(anyTo p l j || p z):=by unfold anyTo;rw [take_succ' h,List.any_append];simp
theorem insQ_plain{l:List α}{z:α}(h:l[j]? = some z)(hc:anyTo p l j=true∨p z=false):insQ p y l (j+1)=insQ p y l j++[z]:=by
 unfold insQ;rw [anyTo_succ h,take_succ' h];cases ha:anyTo p l j with
 | true=>rw [Bool.true_or,if_pos rfl,if_pos rfl,insP_snoc ha]
 | false =>have hz:p z=false:=hc.resolve_left (by rw [ha];decide);rw [hz,Bool.or_false,if_neg (by decide),if_neg (by decide)]
theorem insQ_put{l:List α}{z:α}(h:l[j]? = some z)(ha:anyTo p l j=false)(hz:p z=true):insQ p y l (j+1)=(insQ p y l j++[y])++[z]:=by unfold insQ;rw [anyTo_succ h,take_succ' h,ha,hz,Bool.or_true,if_pos rfl,if_neg (by decide),insP_at hz ha,List.append_assoc];rfl
theorem insQ_there(l:List α)(h:anyTo p l l.length=true):insQ p y l l.length=insP p y l:=by unfold insQ;rw [if_pos h,List.take_length]
theorem insQ_not(l:List α)(h:anyTo p l l.length=false):insQ p y l l.length++[y]=insP p y l:=by
 have h2:l.any p=false:=by unfold anyTo at h;rwa [List.take_length] at h
 unfold insQ;rw [if_neg (by rw [h];decide),List.take_length,insP_none h2]
theorem insP_len:∀ l:List α,(insP p y l).length=l.length+1
 | []=>rfl
 | x :: r=>by rw [insP];split <;> simp [insP_len r]
theorem insQ_len(l:List α)(j:Nat):(insQ p y l j).length≤j+1:=by
 have:=List.length_take_le j l;unfold insQ;split
 · rw [insP_len];omega
 omega
theorem insP_mem{x:α}:∀ {l:List α},x∈insP p y l→x=y∨x∈l
 | [],h=>.inl (List.mem_singleton.1 h)
 | z :: r,h=>by
  rw [insP] at h;split at h
  ·
   rcases List.mem_cons.1 h with h|h
   · exact .inl h
   exact .inr h
  rcases List.mem_cons.1 h with h|h
  · exact .inr (by rw [h];exact List.mem_cons_self ..)
  rcases insP_mem h with h|h
  · exact .inl h
  exact .inr (List.mem_cons_of_mem _ h)
theorem insP_map{q:β→Bool}{g:α→β}(hp:∀ x,p x=q (g x)):∀ l:List α,(insP p y l).map g=insP q (g y) (l.map g)
 | []=>rfl
 | x :: r=>by
  rw [insP,List.map_cons,insP,← hp];split
  · rfl
  rw [List.map_cons,insP_map hp r]
end
theorem putF_is(f:FileM):∀ l,putF f l=insP (fun x=>ltB f.name x.name) f l
 | []=>rfl
 | x :: r=>by rw [putF,insP,putF_is f r]
end Go.Proofs.YtanfebljiblhbaaGreatDoor
