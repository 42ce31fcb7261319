/- What is proved: MergeTurns, for every input; of the listed tables the walk needs the powers of ten. -/
import Derived.Test.YtjccmcgglfncdaaGreatDoorRows
import Derived.PlainAid
set_option linter.unusedVariables false
set_option linter.unusedSimpArgs false
namespace Go.Proofs.YtjccmcgglfncdaaGreatDoor
open Go
variable{a b s:ByteArray}{i j k n:Nat}{α:Type _}{c:UInt8}
theorem Tsc  {l : List α} {a : α}  : (a :: l).take (i + 1) = a :: l.take i := List.take_succ_cons
theorem Tz  {l : List α} : l.take 0 = [] := List.take_zero
theorem Dsc  {l : List α} {a : α}  : (a :: l).drop (i + 1) = l.drop i := List.drop_succ_cons
theorem Dz  {l : List α} : l.drop 0 = l := List.drop_zero
theorem Sib  {l : List α}  {a : α} : l.toArray.setIfInBounds i a = (l.set i a).toArray := List.setIfInBounds_toArray ..
theorem Scs  {x a : α} {xs : List α}  : (x :: xs).set (n + 1) a = x :: xs.set n a := List.set_cons_succ ..
theorem Scz  {x a : α} {xs : List α} : (x :: xs).set 0 a = a :: xs := List.set_cons_zero ..
def letterB(c:UInt8):Bool:=(97≤c && c≤122) || (48≤c && c≤57) || c == 46 || c == 95 || c == 45
def nameOk(s:ByteArray):Bool:=s.data.toList.all letterB && (decide (1≤s.size) && decide (s.size≤16))
def markAt(c:UInt8):Bool:=c == 60 || c == 61 || c == 62 || c == 124
def markL:List UInt8→Bool
 | c0 :: c1 :: c2 :: c3 :: c4 :: c5 :: c6 :: _=>markAt c0 && (c1 == c0 && c2 == c0 && c3 == c0 && c4 == c0 && c5 == c0 && c6 == c0)
 | _=>false
def markOk(s:ByteArray):Bool:=markL s.data.toList
def lineOk(s:ByteArray):Bool := !s.data.toList.contains 10 && decide (s.size≤60) && !markOk s
theorem size_list(s:ByteArray):s.data.toList.length=s.size:=rfl
theorem take_snoc_b(s:ByteArray)(k:Nat)(h:k<s.size):s.data.toList.take (k+1)=s.data.toList.take k++[s[k]]:=by rw [List.take_succ_eq_append_getElem (by simpa using h)];rfl
theorem get_list(s:ByteArray)(k:Nat)(h:k<s.size):s.data.toList[k]? = some s[k]:=by rw [List.getElem?_eq_getElem (by simpa using h)];rfl
theorem letterB_iff(c:UInt8):letterB c=true↔(97≤c.toNat∧c.toNat≤122)∨(48≤c.toNat∧c.toNat≤57)∨c.toNat=46∨c.toNat=95∨c.toNat=45:=by simp [letterB,UInt8.le_iff_toNat_le,← UInt8.toNat_inj,or_assoc]
theorem nameOk_bad(h:k<s.size)(hb:letterB s[k]=false):nameOk s=false:=by
 unfold nameOk;have:s.data.toList.all letterB=false:=by rw [List.all_eq_false];exact⟨s[k],List.mem_of_getElem? (get_list s k h),by simp [hb]⟩
 rw [this];rfl
theorem all_snoc{p:UInt8→Bool}(h:k<s.size)(ha:(s.data.toList.take k).all p=true)(hb:p s[k]=true):(s.data.toList.take (k+1)).all p=true:=by rw [take_snoc_b s k h,List.all_append,ha];simp [hb]
def NoSign(n:Nat):Prop:=((n:Int) == 46)=false∧((n:Int) == 95)=false∧((n:Int) == 45)=false
theorem noSign(n:Nat)(h:n≠46∧n≠95∧n≠45):NoSign n:=⟨by simp;omega,by simp;omega,by simp;omega⟩
theorem letter_no(h:letterB c=false):(c.toNat<45∧NoSign c.toNat)∨c.toNat=47∨(57<c.toNat∧c.toNat<95∧NoSign c.toNat∧decide ((c.toNat:Int)≤57)=false)∨c.toNat=96∨(122<c.toNat∧NoSign c.toNat∧decide ((c.toNat:Int)≤57)=false∧decide ((c.toNat:Int)≤122)=false):=by
 rw [Bool.eq_false_iff,ne_eq,letterB_iff] at h;have:=noSign c.toNat (by omega)
 by_cases h1:c.toNat<45
 · exact .inl ⟨h1,this⟩
 by_cases h2:122<c.toNat
 · exact .inr (.inr (.inr (.inr ⟨h2,this,by simp;omega,by simp;omega⟩)))
 by_cases h3:57<c.toNat∧c.toNat<95
 · exact .inr (.inr (.inl ⟨h3.1,h3.2,this,by simp;omega⟩))
 omega
theorem letter_yes(h:letterB c=true):c.toNat=45∨c.toNat=46∨c.toNat=95∨(48≤c.toNat∧c.toNat≤57)∨(97≤c.toNat∧c.toNat≤122):=by rw [letterB_iff] at h;omega
theorem markL_short:∀ {l:List UInt8},l.length<7→markL l=false
 | [],_=>rfl|[_],_=>rfl|[_,_],_=>rfl|[_,_,_],_=>rfl|[_,_,_,_],_=>rfl|[_,_,_,_,_],_=>rfl|[_,_,_,_,_,_],_=>rfl
 | _ :: _ :: _ :: _ :: _ :: _ :: _ :: _,h=>by simp at h;omega
theorem markL_first:∀ {l:List UInt8} {c:UInt8},l[0]? = some c→markAt c=false→markL l=false
 | c0 :: c1 :: c2 :: c3 :: c4 :: c5 :: c6 :: _,c,h,hc=>by simp at h;subst h;simp [markL,hc]
 | [],_,h,_=>by simp at h
 | [_],_,_,_=>rfl|[_,_],_,_,_=>rfl|[_,_,_],_,_,_=>rfl|[_,_,_,_],_,_,_=>rfl|[_,_,_,_,_],_,_,_=>rfl|[_,_,_,_,_,_],_,_,_=>rfl
theorem markL_other:∀ {l:List UInt8} {c d:UInt8} {j:Nat},l[0]? = some c→l[j]? = some d→j<7→d≠c→markL l=false
 | c0 :: c1 :: c2 :: c3 :: c4 :: c5 :: c6 :: _,c,d,j,h,hj,hlt,hne=>by
  simp at h;subst h;have:j=0∨j=1∨j=2∨j=3∨j=4∨j=5∨j=6:=by omega
  rcases this with rfl|rfl|rfl|rfl|rfl|rfl|rfl <;> simp at hj <;> subst hj <;> simp [markL,hne] <;> exact absurd rfl hne
 | [],_,_,_,h,_,_,_=>by simp at h
 | [_],_,_,_,_,_,_,_=>rfl|[_,_],_,_,_,_,_,_,_=>rfl|[_,_,_],_,_,_,_,_,_,_=>rfl|[_,_,_,_],_,_,_,_,_,_,_=>rfl|[_,_,_,_,_],_,_,_,_,_,_,_=>rfl|[_,_,_,_,_,_],_,_,_,_,_,_,_=>rfl
theorem markL_all:∀ {l:List UInt8} {c:UInt8},7≤l.length→l[0]? = some c→markAt c=true→(∀ j,j<7→l[j]? = some c)→markL l=true
 | c0 :: c1 :: c2 :: c3 :: c4 :: c5 :: c6 :: _,c,_,h,hc,hall=>by simp at h;subst h;have h1:=hall 1 (by decide);have h2:=hall 2 (by decide);have h3:=hall 3 (by decide);have h4:=hall 4 (by decide);have h5:=hall 5 (by decide);have h6:=hall 6 (by decide);simp at h1 h2 h3 h4 h5 h6;subst h1 h2 h3 h4 h5 h6;simp [markL,hc]
 | [],_,h,_,_,_=>by simp at h
 | [_],_,h,_,_,_=>by simp at h|[_,_],_,h,_,_,_=>by simp at h|[_,_,_],_,h,_,_,_=>by simp at h|[_,_,_,_],_,h,_,_,_=>by simp at h|[_,_,_,_,_],_,h,_,_,_=>by simp at h|[_,_,_,_,_,_],_,h,_,_,_=>by simp at h
theorem mark_short(h:s.size<7):markOk s=false:=markL_short h
theorem mark_first(h:0<s.size)(hc:markAt s[0]=false):markOk s=false:=markL_first (get_list s 0 h) hc
theorem mark_other(h:0<s.size)(hj:j<s.size)(h7:j<7)(hne:s[j]≠s[0]):markOk s=false:=markL_other (get_list s 0 h) (get_list s j hj) h7 hne
theorem mark_all(h:7≤s.size)(hc:markAt (s[0]'(by omega))=true)(hall:∀ j,j<7→s.data.toList[j]? = some (s[0]'(by omega))):markOk s=true:=markL_all h (get_list s 0 (by omega)) hc hall
theorem mark_yes(h:markAt c=true):c.toNat=60∨c.toNat=61∨c.toNat=62∨c.toNat=124:=by simp [markAt,← UInt8.toNat_inj] at h;omega
theorem mark_no(h:markAt c=false):((c.toNat:Int) == 60)=false∧((c.toNat:Int) == 61)=false∧((c.toNat:Int) == 62)=false∧((c.toNat:Int) == 124)=false∧((c.toNat:Int) != 60)=true∧((c.toNat:Int) != 61)=true∧((c.toNat:Int) != 62)=true∧((c.toNat:Int) != 124)=true:=by simp [markAt,← UInt8.toNat_inj] at h;refine⟨by simp;omega,by simp;omega,by simp;omega,by simp;omega,by simp;omega,by simp;omega,by simp;omega,by simp;omega⟩
attribute [irreducible] markOk
theorem lineOk_has(h:k<s.size)(hc:s[k]=10):lineOk s=false:=by
 have:s.data.toList.contains 10=true:=by simp only [List.contains_iff_mem];rw [← hc];exact List.mem_of_getElem? (get_list s k h)
 unfold lineOk;rw [this];rfl
theorem lineOk_none(h:∀ j,j<s.size→s.data.toList[j]? ≠ some 10):lineOk s=(decide (s.size≤60) && !markOk s):=by
 have:s.data.toList.contains 10=false:=by rw [Bool.eq_false_iff];intro hc;simp only [List.contains_iff_mem] at hc;obtain⟨j,hj,he⟩:=List.getElem_of_mem hc;exact h j hj (by rw [List.getElem?_eq_getElem hj,he])
 unfold lineOk;rw [this];rfl
structure FileM where
 name:ByteArray
 also:List ByteArray
 lines:List ByteArray
deriving DecidableEq,Inhabited
def findFrom(n:ByteArray):List FileM→Nat→Int
 | [],_ => -1
 | f :: r,i=>if f.name=n then i else findFrom n r (i+1)
def findT(t:List FileM)(n:ByteArray):Int:=findFrom n t 0
theorem findFrom_at:∀ {t:List FileM} {n:ByteArray} {i k:Nat} {f:FileM},(∀ j g,j<k→t[j]? = some g→g.name≠n)→t[k]? = some f→f.name=n→findFrom n t i=((i+k:Nat):Int)
 | [],_,_,_,_,_,h,_=>by simp at h
 | g :: t,n,i,0,f,_,h,hn=>by simp at h;subst h;simp [findFrom,hn]
 | g :: t,n,i,k+1,f,ha,h,hn=>by rw [findFrom,if_neg (ha 0 g (by omega) rfl),findFrom_at (k:=k) (fun j x hj hx=>ha (j+1) x (by omega) (by simpa using hx)) (by simpa using h) hn];omega
theorem findT_at{t:List FileM}{n:ByteArray}{f:FileM}(ha:∀ j g,j<k→t[j]? = some g→g.name≠n)(h:t[k]? = some f)(hn:f.name=n):findT t n=(k:Int):=by rw [findT,findFrom_at ha h hn];simp
theorem findFrom_none:∀ {t:List FileM} {n:ByteArray} {i:Nat},(∀(j:Nat) g,t[j]? = some g→g.name≠n)→findFrom n t i = -1
 | [],_,_,_=>rfl
 | g :: t,n,i,ha=>by rw [findFrom,if_neg (ha 0 g rfl),findFrom_none fun j x hx=>ha (j+1) x (by simpa using hx)]
theorem findT_none{t:List FileM}{n:ByteArray}(ha:∀(j:Nat) g,t[j]? = some g→g.name≠n):findT t n = -1:=findFrom_none ha
theorem eq_of_all{α:Type}{xs ys:List α}(hl:xs.length=ys.length)(h:∀ j,j<xs.length→xs[j]? = ys[j]?):xs=ys:=by
 apply List.ext_getElem?;intro j
 by_cases hj:j<xs.length
 · exact h j hj
 rw [List.getElem?_eq_none (by omega),List.getElem?_eq_none (by omega)]
theorem ba_list:a.toList=b.toList↔a=b:=by rw [ByteArray.toList_eq,ByteArray.toList_eq];exact⟨fun h=>ByteArray.ext (Array.ext' h),fun h=>by rw [h]⟩
theorem seq_t(h:a=b):(a.toList == b.toList)=true:=by simp [h]
theorem seq_f(h:¬ a=b):(a.toList == b.toList)=false:=by simp [ba_list,h]
def sameS(a b:List ByteArray):Bool:=decide (a=b)
theorem sameS_t{a b:List ByteArray}(h:a=b):sameS a b=true:=by simp [sameS,h]
theorem sameS_f{a b:List ByteArray}(h:¬ a=b):sameS a b=false:=by simp [sameS,h]
def sameT(a b:List FileM):Bool:=decide (a=b)
theorem sameT_t{a b:List FileM}(h:a=b):sameT a b=true:=by simp [sameT,h]
theorem sameT_f{a b:List FileM}(h:¬ a=b):sameT a b=false:=by simp [sameT,h]
attribute [irreducible] sameS sameT
def ltB(a b:ByteArray):Bool:=Op.bytesLess a.toList b.toList
def fileOk(f:FileM):Bool:=nameOk f.name && (decide (f.also.length=0) && (decide (f.lines.length≤60) && f.lines.all lineOk))
def goodAt(t:List FileM)(i:Nat):Bool:=match t[i]? with
 | none=>true
 | some f=>fileOk f && match i with
  | 0=>true
  | i+1=>match t[i]? with
   | none=>true
   | some g=>ltB g.name f.name
def treeGood(t:List FileM):Bool:=decide (t.length≤16) && (List.range t.length).all (goodAt t)
theorem treeGood_long{t:List FileM}(h:¬ t.length≤16):treeGood t=false:=by simp [treeGood,h]
theorem treeGood_bad{t:List FileM}(hi:i<t.length)(h:goodAt t i=false):treeGood t=false:=by unfold treeGood;rw [Bool.and_eq_false_iff];right;rw [List.all_eq_false];exact⟨i,by simpa using hi,by simp [h]⟩
theorem treeGood_all{t:List FileM}(h:∀ i,i<t.length→goodAt t i=true):treeGood t=decide (t.length≤16):=by have:(List.range t.length).all (goodAt t)=true:=List.all_eq_true.2 fun i hi=>h i (by simpa using hi);rw [treeGood,this,Bool.and_true]
theorem goodAt_file{t:List FileM}{f:FileM}(h:t[i]? = some f)(hf:fileOk f=false):goodAt t i=false:=by unfold goodAt;rw [h];simp [hf]
theorem goodAt_zero{t:List FileM}{f:FileM}(h:t[0]? = some f):goodAt t 0=fileOk f:=by unfold goodAt;rw [h];simp
theorem goodAt_succ{t:List FileM}{f g:FileM}(h:t[i+1]? = some f)(hg:t[i]? = some g):goodAt t (i+1)=(fileOk f && ltB g.name f.name):=by unfold goodAt;rw [h];simp [hg]
theorem fileOk_name{f:FileM}(h:nameOk f.name=false):fileOk f=false:=by simp [fileOk,h]
theorem fileOk_also{f:FileM}(h:f.also.length≠0):fileOk f=false:=by unfold fileOk;simp [h]
theorem fileOk_long{f:FileM}(h:¬ f.lines.length≤60):fileOk f=false:=by unfold fileOk;simp [h]
theorem fileOk_line{f:FileM}{x:ByteArray}(hx:f.lines[j]? = some x)(h:lineOk x=false):fileOk f=false:=by
 have:f.lines.all lineOk=false:=by rw [List.all_eq_false];exact⟨x,List.mem_of_getElem? hx,by simp [h]⟩
 unfold fileOk;simp [this]
theorem fileOk_all{f:FileM}(h1:nameOk f.name=true)(h2:f.also.length=0)(h3:f.lines.length≤60)(h4:∀(j:Nat) x,f.lines[j]? = some x→lineOk x=true):fileOk f=true:=by
 have:f.lines.all lineOk=true:=List.all_eq_true.2 fun x hx=>by obtain⟨j,hj,rfl⟩:=List.getElem_of_mem hx;exact h4 j _ (List.getElem?_eq_getElem hj)
 unfold fileOk;simp [h1,h2,h3,this]
attribute [irreducible] treeGood fileOk goodAt
def SzS(xs:List ByteArray):Prop:=∀ x∈xs,x.size≤maxLen
def SzT(t:List FileM):Prop:=∀ f∈t,f.name.size≤maxLen∧SzS f.also∧SzS f.lines
theorem SzS.at{xs:List ByteArray}(h:SzS xs){x:ByteArray}(hx:xs[j]? = some x):x.size≤maxLen:=h x (List.mem_of_getElem? hx)
theorem SzT.at{t:List FileM}(h:SzT t){f:FileM}(hx:t[j]? = some f):f.name.size≤maxLen∧SzS f.also∧SzS f.lines:=h f (List.mem_of_getElem? hx)
def letterN(n:Nat):Bool:=decide ((97≤n∧n≤122)∨(48≤n∧n≤57)∨n=46∨n=95∨n=45)
theorem letterN_of(c:UInt8):letterN c.toNat=letterB c:=by rw [Bool.eq_iff_iff,letterB_iff,letterN,decide_eq_true_eq]
theorem letterN_no(h:letterN n=false):(n<45∧NoSign n)∨n=47∨(57<n∧n<95∧NoSign n∧decide ((n:Int)≤57)=false)∨n=96∨(122<n∧NoSign n∧decide ((n:Int)≤57)=false∧decide ((n:Int)≤122)=false):=by
 rw [letterN,decide_eq_false_iff_not] at h;have:=noSign n (by omega)
 by_cases h1:n<45
 · exact .inl ⟨h1,this⟩
 by_cases h2:122<n
 · exact .inr (.inr (.inr (.inr ⟨h2,this,by simp;omega,by simp;omega⟩)))
 by_cases h3:57<n∧n<95
 · exact .inr (.inr (.inl ⟨h3.1,h3.2,this,by simp;omega⟩))
 omega
theorem letterN_yes(h:letterN n=true):n=45∨n=46∨n=95∨(48≤n∧n≤57)∨(97≤n∧n≤122):=by rw [letterN,decide_eq_true_eq] at h;omega
theorem letterN_high(h:128≤n):letterN n=false:=by rw [letterN,decide_eq_false_iff_not];omega
theorem letterB_high(h:128≤c.toNat):letterB c=false:=by rw [← letterN_of];exact letterN_high h
theorem nameOk_all(h:s.data.toList.all letterB=true):nameOk s=(decide (1≤s.size) && decide (s.size≤16)):=by unfold nameOk;rw [h,Bool.true_and]
theorem nonempty_tl(h:1≤s.size):(s.toList == [])=false∧s.toList.isEmpty=false:=by
 have:s.toList≠[]:=by rw [ByteArray.toList_eq];intro h';have:=congrArg List.length h';rw [size_list] at this;simp only [List.length_nil] at this;omega
 constructor
 · simpa using this
 simpa using this
theorem empty_tl(h:s.size=0):s.toList=[]:=by rw [ByteArray.toList_eq];exact List.eq_nil_of_length_eq_zero h
attribute [irreducible] letterN
end Go.Proofs.YtjccmcgglfncdaaGreatDoor
