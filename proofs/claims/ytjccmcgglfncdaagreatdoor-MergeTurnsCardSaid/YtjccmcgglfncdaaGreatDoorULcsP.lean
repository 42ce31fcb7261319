/- What is proved: MergeTurns, for every input; of the listed tables the walk needs the powers of ten. -/
import Derived.Test.YtjccmcgglfncdaaGreatDoorUTreeP
set_option linter.unusedVariables false
set_option linter.unusedSimpArgs false
namespace Go.Proofs.YtjccmcgglfncdaaGreatDoor
open Go
variable{x y:ByteArray}{a b:List ByteArray}{f i j:Nat}
def lcsLen:List ByteArray→List ByteArray→Nat
 | [],_=>0
 | _ :: _,[]=>0
 | x :: xs,y :: ys=>if x=y then lcsLen xs ys+1 else max (lcsLen xs (y :: ys)) (lcsLen (x :: xs) ys)
theorem lcs_nil_right:∀ xs:List ByteArray,lcsLen xs []=0
 | []=>by simp [lcsLen]
 | _ :: _=>by simp [lcsLen]
theorem lcs_le_left:∀ xs ys:List ByteArray,lcsLen xs ys≤xs.length
 | [],_=>by simp [lcsLen]
 | _ :: _,[]=>by simp [lcsLen]
 | x :: xs,y :: ys=>by have h1:=lcs_le_left xs ys;have h2:=lcs_le_left xs (y :: ys);have h3:=lcs_le_left (x :: xs) ys;rw [lcsLen];simp only [List.length_cons] at *;split <;> omega
termination_by xs ys=>xs.length+ys.length
theorem lcs_step:∀(xs ys:List ByteArray),(∀ x,lcsLen (x :: xs) ys≤lcsLen xs ys+1∧lcsLen xs ys≤lcsLen (x :: xs) ys)∧(∀ y,lcsLen xs (y :: ys)≤lcsLen xs ys+1∧lcsLen xs ys≤lcsLen xs (y :: ys))
 | [],[]=>by constructor <;> intro z <;> simp [lcsLen]
 | [],b :: ys=>by refine⟨fun x => ?_,fun y=>by simp [lcsLen]⟩;have ih:=(lcs_step [] ys).1 x;rw [lcsLen];simp only [lcsLen] at ih ⊢;split <;> omega
 | a :: xs,[]=>by refine⟨fun x=>by simp [lcsLen],fun y => ?_⟩;have ih:=(lcs_step xs []).2 y;rw [lcsLen];simp only [lcsLen,lcs_nil_right] at ih ⊢;split <;> omega
 | a :: xs,b :: ys=>by
  have i1:=(lcs_step xs ys).2 b;have i2:=(lcs_step xs ys).1 a;have i3:=fun x=>(lcs_step (a :: xs) ys).1 x;have i4:=fun y=>(lcs_step xs (b :: ys)).2 y;have e:lcsLen (a :: xs) (b :: ys)=if a=b then lcsLen xs ys+1 else max (lcsLen xs (b :: ys)) (lcsLen (a :: xs) ys):=by rw [lcsLen]
  refine⟨fun x => ?_,fun y => ?_⟩
  · have h3:=i3 x;rw [show lcsLen (x :: a :: xs) (b :: ys)=if x=b then lcsLen (a :: xs) ys+1 else max (lcsLen (a :: xs) (b :: ys)) (lcsLen (x :: a :: xs) ys) by rw [lcsLen]];rw [e];split <;> split <;> omega
  have h4:=i4 y;rw [show lcsLen (a :: xs) (y :: b :: ys)=if a=y then lcsLen xs (b :: ys)+1 else max (lcsLen xs (y :: b :: ys)) (lcsLen (a :: xs) (b :: ys)) by rw [lcsLen]];rw [e];split <;> split <;> omega
termination_by xs ys=>xs.length+ys.length
def lcsAt(a b:List ByteArray)(i j:Nat):Nat:=lcsLen (a.drop i) (b.drop j)
theorem drop_get{α:Type}{l:List α}{x:α}(h:l[i]? = some x):l.drop i=x :: l.drop (i+1):=by obtain⟨hi,rfl⟩:=List.getElem?_eq_some_iff.1 h;exact List.drop_eq_getElem_cons hi
theorem lcsAt_eq(hx:a[i]? = some x)(hy:b[j]? = some y)(h:x=y):lcsAt a b i j=lcsAt a b (i+1) (j+1)+1:=by unfold lcsAt;rw [drop_get hx,drop_get hy,lcsLen,if_pos h]
theorem lcsAt_ne(hx:a[i]? = some x)(hy:b[j]? = some y)(h:¬ x=y):lcsAt a b i j=max (lcsAt a b (i+1) j) (lcsAt a b i (j+1)):=by unfold lcsAt;rw [drop_get hx,drop_get hy,lcsLen,if_neg h,← drop_get hy,← drop_get hx]
theorem lcsAt_diag(hx:a[i]? = some x)(hy:b[j]? = some y):lcsAt a b (i+1) j≤lcsAt a b (i+1) (j+1)+1∧lcsAt a b i (j+1)≤lcsAt a b (i+1) (j+1)+1:=by unfold lcsAt;rw [drop_get hx,drop_get hy];exact⟨((lcs_step _ _).2 y).1,((lcs_step _ _).1 x).1⟩
theorem lcsAt_end_left(a b:List ByteArray)(j:Nat):lcsAt a b a.length j=0:=by simp [lcsAt,lcsLen]
theorem lcsAt_end_right(a b:List ByteArray)(i:Nat):lcsAt a b i b.length=0:=by simp [lcsAt,lcs_nil_right]
theorem lcsAt_le(a b:List ByteArray)(i j:Nat):lcsAt a b i j≤a.length:=by have:=lcs_le_left (a.drop i) (b.drop j);simp only [List.length_drop] at this;unfold lcsAt;omega
def pairsF(a b:List ByteArray):Nat→Nat→Nat→List (Nat × Nat)
 | 0,_,_=>[]
 | f+1,i,j=>match a[i]?,b[j]? with
  | some x,some y=>if x=y then(i,j) :: pairsF a b f (i+1) (j+1)
   else if lcsAt a b i (j+1)≤lcsAt a b (i+1) j then pairsF a b f (i+1) j else pairsF a b f i (j+1)
  | _,_=>[]
def pairs(a b:List ByteArray):List (Nat × Nat):=pairsF a b (a.length+b.length) 0 0
theorem pairsF_eq(hx:a[i]? = some x)(hy:b[j]? = some y)(h:x=y):pairsF a b (f+1) i j=(i,j) :: pairsF a b f (i+1) (j+1):=by rw [pairsF,hx,hy];simp [h]
theorem pairsF_left(hx:a[i]? = some x)(hy:b[j]? = some y)(h:¬ x=y)(hl:lcsAt a b i (j+1)≤lcsAt a b (i+1) j):pairsF a b (f+1) i j=pairsF a b f (i+1) j:=by rw [pairsF,hx,hy];simp [h,hl]
theorem pairsF_right(hx:a[i]? = some x)(hy:b[j]? = some y)(h:¬ x=y)(hl:¬ lcsAt a b i (j+1)≤lcsAt a b (i+1) j):pairsF a b (f+1) i j=pairsF a b f i (j+1):=by rw [pairsF,hx,hy];simp [h,hl]
theorem pairsF_end(h:¬ (i<a.length∧j<b.length)):pairsF a b f i j=[]:=by
 cases f with
 | zero=>rfl
 | succ f =>
  rw [pairsF]
  by_cases hi:i<a.length
  · have hj:b[j]? = none:=List.getElem?_eq_none (by omega);rw [hj];cases a[i]? <;> rfl
  · have hi':a[i]? = none:=List.getElem?_eq_none (by omega);rw [hi']
theorem pairsF_fuel(a b:List ByteArray):∀ {f g i j:Nat},f=f→(a.length+b.length - i - j≤f∧a.length+b.length - i - j≤g)→i≤a.length→j≤b.length→pairsF a b f i j=pairsF a b g i j:=by
 intro f;induction f with
 | zero =>intro g i j _ h hi hj;rw [pairsF_end (by omega),pairsF_end (by omega)]
 | succ f ih =>
  intro g i j _ h hi hj
  by_cases hin:i<a.length∧j<b.length
  ·
   cases g with
   | zero=>omega
   | succ g =>rw [pairsF,pairsF,List.getElem?_eq_getElem hin.1,List.getElem?_eq_getElem hin.2];simp only;rw [ih (g:=g) (i:=i+1) (j:=j+1) rfl (by omega) (by omega) (by omega),ih (g:=g) (i:=i+1) (j:=j) rfl (by omega) (by omega) (by omega),ih (g:=g) (i:=i) (j:=j+1) rfl (by omega) (by omega) (by omega)]
  · rw [pairsF_end hin,pairsF_end hin]
theorem pairsF_end_zero(a b:List ByteArray)(i j:Nat):pairsF a b 0 i j=[]:=rfl
attribute [irreducible] lcsAt pairsF pairs
end Go.Proofs.YtjccmcgglfncdaaGreatDoor
