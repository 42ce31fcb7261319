/- General words for slices, strings and structs that lie in old memory, and for what a call makes itself. -/
import Derived.Test.YtllcipobiengiaaGreatYArr
import Derived.Lib.SlBytesConst
import Derived.Stop.BytesEq
namespace Go.Proofs.YtllcipobiengiaaGreat
open Go Go.RowKit

/-! ### rows whose elements have sz cells -/
theorem flat_len{α:Type}{f:α→List Value}{sz:Nat}(hf:∀ x,(f x).length=sz):∀ xs:List α,(xs.flatMap f).length=xs.length*sz
 | []=>by simp
 | x :: xs=>by simp only [List.flatMap_cons,List.length_append,hf,flat_len hf xs,List.length_cons,Nat.add_mul];omega
theorem flat_get{α:Type}{f:α→List Value}{sz:Nat}(hf:∀ x,(f x).length=sz):∀(xs:List α) (i j:Nat) (x:α),xs[i]? = some x→j<sz→(xs.flatMap f)[i*sz+j]? = (f x)[j]?
 | [],i,j,x,h,_=>by simp at h
 | y :: xs,0,j,x,h,hj=>by
  simp only [List.getElem?_cons_zero,Option.some.injEq] at h
  subst h
  rw [List.flatMap_cons,List.getElem?_append_left (by rw [hf];omega)];simp
 | y :: xs,i+1,j,x,h,hj=>by
  rw [List.flatMap_cons,List.getElem?_append_right (by rw [hf,Nat.add_mul];omega),hf,show(i+1)*sz+j - sz=i*sz+j by rw [Nat.add_mul];omega]
  exact flat_get hf xs i j x (by simpa using h) hj
theorem Row.form{w:World}{v:Value}{n sz:Nat}{cs:List Value}(h:Row w v n sz cs):∃ a cap,v=.slice a n cap∧n≤cap∧cap≤maxLen∧(a=none→cap=0) ∧
  (n=0∨∃ b off,a=some ⟨b,off,none⟩∧b<w.heap.size∧∀ j u,cs[j]? = some u→w.cell? ⟨b,off+j,none⟩=some u):=by
 obtain⟨_,a,cap,rfl,h2,h3,h4,h5⟩:=h
 refine⟨a,cap,rfl,h2,h3,h4,?_⟩
 by_cases hn:n=0
 ·
  exact .inl hn
 ·
  exact .inr (h5 hn)
/-- element i of the row -/
theorem Row.elem{α:Type}{f:α→List Value}{sz:Nat}(hf:∀ x,(f x).length=sz){w:World}{xs:List α}{b off:Nat}(hc:∀ j u,(xs.flatMap f)[j]? = some u→w.cell? ⟨b,off+j,none⟩=some u)
  {i:Nat} {x:α} (hx:xs[i]? = some x) {j:Nat} {u:Value} (hu:(f x)[j]? = some u):w.cell? ⟨b,off+i*sz+j,none⟩=some u:=by
 rw [Nat.add_assoc]
 refine hc _ _ ?_
 have hj:j<sz:=by rw [← hf x];exact(List.getElem?_eq_some_iff.1 hu).1
 rw [flat_get hf xs i j x hx hj];exact hu

theorem tsg{α:Type}{xs:List α}{i:Nat}{x:α}(h:xs[i]? = some x):xs.take (i+1)=xs.take i++[x]:=by
 obtain⟨hi,rfl⟩:=List.getElem?_eq_some_iff.1 h
 exact List.take_succ_eq_append_getElem hi
theorem gol{α:Type}{xs:List α}{i:Nat}(h:i<xs.length):∃ x,xs[i]? = some x:=⟨xs[i],List.getElem?_eq_getElem h⟩

/-! ### strings -/
def SRow(w:World)(v:Value)(xs:List ByteArray):Prop:=Row w v xs.length 1 (xs.map Value.string)
theorem SRow.over{w w':World}{v:Value}{xs:List ByteArray}(h:SRow w v xs)(hb:Below w.heap.size w w'):SRow w' v xs:=Row.over h hb
theorem srow_nil(w:World):SRow w (.slice none 0 0) []:=row_nil w 1
theorem SRow.form{w:World}{v:Value}{xs:List ByteArray}(h:SRow w v xs):∃ a cap,v=.slice a xs.length cap∧xs.length≤cap∧cap≤maxLen∧(a=none→cap=0) ∧
  (xs.length=0∨∃ b off,a=some ⟨b,off,none⟩∧b<w.heap.size∧∀ j x,xs[j]? = some x→w.cell? ⟨b,off+j,none⟩=some (.string x)):=by
 obtain⟨a,cap,h1,h2,h3,h4,h5⟩:=Row.form h
 refine⟨a,cap,h1,h2,h3,h4,h5.imp id ?_⟩
 rintro⟨b,off,e1,e2,hc⟩
 exact⟨b,off,e1,e2,fun j x hx=>hc j _ (by simp [hx])⟩
section
variable {P : Program} {t e : TypeId} {size bytes : Nat} {w : World} {ops : Array Oper} {rest : List Oper} {o : Oper} {a : Act} {Q : Exit → Act → World → Prop}
end

section
variable {P : Program} {t e : TypeId} {size bytes : Nat} {w : World} {ops : Array Oper} {rest : List Oper} {o : Oper} {a : Act} {Q : Exit → Act → World → Prop}
/-- a guarded operation that is not wanted -/
theorem lxs{C:World→Prop}{loud:Nat→Bool}{Q:Act→World→Prop}{k:Nat}{o:Oper}{l:List Oper}{a:Act}{w:World}{g:Nat × Bool}(hg:o.guard=some g)(hw:Region.wanted o (yielded ops a.tmps)=false)
  (h:wpLex P ops C loud Q (k+1) l (a.put o.dst undef) w):wpLex P ops C loud Q k (o :: l) a w:=by
 unfold wpLex
 rw [if_neg (by rw [hw];decide)];exact h
end

section
variable {P : Program} {t e : TypeId} {size bytes : Nat} {w : World} {ops : Array Oper} {rest : List Oper} {o : Oper} {a : Act} {Q : Exit → Act → World → Prop}
/-- 'append(s, x)' in a world of which the size is told -/
theorem wpList_append_newH(T:SlT P t e size bytes)(hgd:o.guard=none)(s x:Operand)
  (ho:o.op=.call {callee:=.builtin .append,args:=#[s,x],argTypes:=#[t,t]})
  (base:Nat) (cs:Array Value) (e2:TypeId) (H:Nat) (hH:w.heap.size=H) (m:Nat) (v:Value) (n:Nat) (xs:List Value) (hown:w.ownsRow base e size v n xs) (hs:a.eval s=v)
  (hx:a.eval x=.slice (some ⟨H,0,none⟩) m m) (hcs:cs.size=m*size) (h1:cs.toList.all (fun u=>u.oneCell')=true)
  (hN:n+m≤1099511627776) (hby:bytes≤128) (hbase:base≤H)
  (h:∀ v' w',w'.ownsRow base e size v' (n+m) (xs++cs.toList)→w.grownBy w' v.ownBlock→wpList P ops Q rest (a.put o.dst v') w'):wpList P ops Q (o :: rest) a (w.alloc (.cells cs e2)):=by
 subst hH
 exact wpList_append_new T hgd s x ho base cs e2 m v n xs hown hs hx hcs h1 hN hby hbase h
end
end Go.Proofs.YtllcipobiengiaaGreat
