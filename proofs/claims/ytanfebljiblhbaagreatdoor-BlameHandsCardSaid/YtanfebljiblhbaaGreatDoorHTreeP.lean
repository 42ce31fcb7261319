/- Plain words of layers 14 and 15: names, lines, trees; no program in sight. -/
import Derived.Test.YtanfebljiblhbaaGreatDoorRows
import Derived.PlainAid
set_option linter.unusedVariables false
set_option linter.unusedSimpArgs false
namespace Go.Proofs.YtanfebljiblhbaaGreatDoor
open Go

def letterB(c:UInt8):Bool:=(97≤c && c≤122) || (48≤c && c≤57) || c == 46 || c == 95 || c == 45
def nameOk(s:ByteArray):Bool:=s.data.toList.all letterB && (decide (1≤s.size) && decide (s.size≤16))
def markAt(c:UInt8):Bool:=c == 60 || c == 61 || c == 62 || c == 124
def markL:List UInt8→Bool
 | c0 :: c1 :: c2 :: c3 :: c4 :: c5 :: c6 :: _=>markAt c0 && (c1 == c0 && c2 == c0 && c3 == c0 && c4 == c0 && c5 == c0 && c6 == c0)
 | _=>false
def markOk(s:ByteArray):Bool:=markL s.data.toList
def lineOk(s:ByteArray):Bool := !s.data.toList.contains 10 && decide (s.size≤60) && !markOk s

theorem size_list(s:ByteArray):s.data.toList.length=s.size:=rfl
theorem take_snoc_b(s:ByteArray)(k:Nat)(h:k<s.size):s.data.toList.take (k+1)=s.data.toList.take k++[s[k]]:=by
 rw [List.take_succ_eq_append_getElem (by simpa using h)];rfl
theorem get_list(s:ByteArray)(k:Nat)(h:k<s.size):s.data.toList[k]? = some s[k]:=by
 rw [List.getElem?_eq_getElem (by simpa using h)];rfl
theorem letterB_iff(c:UInt8):letterB c=true↔(97≤c.toNat∧c.toNat≤122)∨(48≤c.toNat∧c.toNat≤57)∨c.toNat=46∨c.toNat=95∨c.toNat=45:=by
 simp [letterB,UInt8.le_iff_toNat_le,← UInt8.toNat_inj,or_assoc]
theorem nameOk_bad{s:ByteArray}{k:Nat}(h:k<s.size)(hb:letterB s[k]=false):nameOk s=false:=by
 unfold nameOk
 have:s.data.toList.all letterB=false:=by
  rw [List.all_eq_false]
  exact⟨s[k],List.mem_of_getElem? (get_list s k h),by simp [hb]⟩
 rw [this];rfl
theorem all_snoc{s:ByteArray}{k:Nat}{p:UInt8→Bool}(h:k<s.size)(ha:(s.data.toList.take k).all p=true)(hb:p s[k]=true):(s.data.toList.take (k+1)).all p=true:=by
 rw [take_snoc_b s k h,List.all_append,ha];simp [hb]
def NoSign(n:Nat):Prop:=((n:Int) == 46)=false∧((n:Int) == 95)=false∧((n:Int) == 45)=false
theorem noSign(n:Nat)(h:n≠46∧n≠95∧n≠45):NoSign n:=⟨by simp;omega,by simp;omega,by simp;omega⟩
theorem markL_short:∀ {l:List UInt8},l.length<7→markL l=false
 | [],_=>rfl|[_],_=>rfl|[_,_],_=>rfl|[_,_,_],_=>rfl|[_,_,_,_],_=>rfl|[_,_,_,_,_],_=>rfl|[_,_,_,_,_,_],_=>rfl
 | _ :: _ :: _ :: _ :: _ :: _ :: _ :: _,h=>by simp at h;omega
theorem mark_short{s:ByteArray}(h:s.size<7):markOk s=false:=markL_short h
attribute [irreducible] markOk
/-- a file of a tree -/
structure FileM where
 name:ByteArray
 also:List ByteArray
 lines:List ByteArray
deriving DecidableEq,Inhabited
theorem ba_list{a b:ByteArray}:a.toList=b.toList↔a=b:=by
 rw [ByteArray.toList_eq,ByteArray.toList_eq]
 exact⟨fun h=>ByteArray.ext (Array.ext' h),fun h=>by rw [h]⟩
theorem seq_t{a b:ByteArray}(h:a=b):(a.toList == b.toList)=true:=by simp [h]
theorem seq_f{a b:ByteArray}(h:¬ a=b):(a.toList == b.toList)=false:=by simp [ba_list,h]
def ltB(a b:ByteArray):Bool:=Op.bytesLess a.toList b.toList
/-- strings' sizes -/
def SzS(xs:List ByteArray):Prop:=∀ x∈xs,x.size≤maxLen
def SzT(t:List FileM):Prop:=∀ f∈t,f.name.size≤maxLen∧SzS f.also∧SzS f.lines
theorem SzS.at{xs:List ByteArray}(h:SzS xs){j:Nat}{x:ByteArray}(hx:xs[j]? = some x):x.size≤maxLen:=h x (List.mem_of_getElem? hx)
theorem SzT.at{t:List FileM}(h:SzT t){j:Nat}{f:FileM}(hx:t[j]? = some f):f.name.size≤maxLen∧SzS f.also∧SzS f.lines:=h f (List.mem_of_getElem? hx)

def letterN(n:Nat):Bool:=decide ((97≤n∧n≤122)∨(48≤n∧n≤57)∨n=46∨n=95∨n=45)
theorem letterN_of(c:UInt8):letterN c.toNat=letterB c:=by
 rw [Bool.eq_iff_iff,letterB_iff,letterN,decide_eq_true_eq]
theorem letterN_no{n:Nat}(h:letterN n=false):(n<45∧NoSign n)∨n=47∨(57<n∧n<95∧NoSign n∧decide ((n:Int)≤57)=false)∨n=96∨(122<n∧NoSign n∧decide ((n:Int)≤57)=false∧decide ((n:Int)≤122)=false):=by
 rw [letterN,decide_eq_false_iff_not] at h
 have:=noSign n (by omega)
 by_cases h1:n<45
 ·
  exact .inl ⟨h1,this⟩
 ·
  by_cases h2:122<n
  ·
   exact .inr (.inr (.inr (.inr ⟨h2,this,by simp;omega,by simp;omega⟩)))
  ·
   by_cases h3:57<n∧n<95
   ·
    exact .inr (.inr (.inl ⟨h3.1,h3.2,this,by simp;omega⟩))
   ·
    omega
theorem letterN_yes{n:Nat}(h:letterN n=true):n=45∨n=46∨n=95∨(48≤n∧n≤57)∨(97≤n∧n≤122):=by
 rw [letterN,decide_eq_true_eq] at h;omega
theorem letterN_high{n:Nat}(h:128≤n):letterN n=false:=by
 rw [letterN,decide_eq_false_iff_not];omega
theorem letterB_high{c:UInt8}(h:128≤c.toNat):letterB c=false:=by rw [← letterN_of];exact letterN_high h
theorem nameOk_all{s:ByteArray}(h:s.data.toList.all letterB=true):nameOk s=(decide (1≤s.size) && decide (s.size≤16)):=by
 unfold nameOk;rw [h,Bool.true_and]
theorem nonempty_tl{s:ByteArray}(h:1≤s.size):(s.toList == [])=false∧s.toList.isEmpty=false:=by
 have:s.toList≠[]:=by rw [ByteArray.toList_eq];intro h';have:=congrArg List.length h';rw [size_list] at this;simp only [List.length_nil] at this;omega
 constructor
 ·
  simpa using this
 ·
  simpa using this
theorem empty_tl{s:ByteArray}(h:s.size=0):s.toList=[]:=by
 rw [ByteArray.toList_eq];exact List.eq_nil_of_length_eq_zero h
attribute [irreducible] letterN
end Go.Proofs.YtanfebljiblhbaaGreatDoor
