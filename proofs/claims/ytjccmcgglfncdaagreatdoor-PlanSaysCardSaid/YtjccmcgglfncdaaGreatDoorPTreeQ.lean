/- What is proved: PlanSays, for every input; of the listed tables the walk needs the powers of ten. -/
import Derived.Test.YtjccmcgglfncdaaGreatDoorPTreeP
import Derived.Lib.Bytealg
import Derived.Lib.IndexLaws
set_option linter.unusedVariables false
set_option linter.unusedSimpArgs false
namespace Go.Proofs.YtjccmcgglfncdaaGreatDoor
open Go
theorem mark_list:∀ {l:List UInt8} {c:UInt8},7≤l.length→l[0]? = some c→markL l=(markAt c && ((l.drop 1).take 6 == l.take 6))
 | c0 :: c1 :: c2 :: c3 :: c4 :: c5 :: c6 :: r,c,_,h=>by
  simp at h;subst h;simp only [markL,Dsc,Dz,Tsc,Tz];congr 1;rw [Bool.eq_iff_iff];simp only [Bool.and_eq_true,beq_iff_eq,List.cons.injEq,and_true];constructor
  · rintro⟨⟨⟨⟨⟨h1,h2⟩,h3⟩,h4⟩,h5⟩,h6⟩;subst h1 h2 h3 h4 h5 h6;simp
  rintro⟨h1,h2,h3,h4,h5,h6⟩;subst h1 h2 h3 h4 h5 h6;simp
 | [],_,h,_=>by simp at h
 | [_],_,h,_=>by simp at h|[_,_],_,h,_=>by simp at h|[_,_,_],_,h,_=>by simp at h|[_,_,_,_],_,h,_=>by simp at h|[_,_,_,_,_],_,h,_=>by simp at h|[_,_,_,_,_,_],_,h,_=>by simp at h
theorem extract_tl(s:ByteArray)(a b:Nat):(s.extract a b).toList=(s.data.toList.drop a).take (b - a):=by rw [ByteArray.toList_eq,ByteArray.data_extract,Array.toList_extract]
theorem mark_ext{s:ByteArray}(h:7≤s.size):markOk s=(markAt (s[0]'(by omega)) && ((s.extract 1 7).toList == (s.extract 0 6).toList)):=by unfold markOk;rw [extract_tl,extract_tl,mark_list h (get_list s 0 (by omega))];rfl
theorem sign_ix(c:UInt8):decide (Lib.indexByte [60,61,62,124] c<0) = !markAt c:=by
 have h:∀ n,n<256→decide (Lib.indexByte [60,61,62,124] (UInt8.ofNat n)<0) = !markAt (UInt8.ofNat n):=by decide +kernel
 have:=h c.toNat c.toNat_lt
 rwa [UInt8.ofNat_toNat] at this
theorem toUInt8_cast(c:UInt8):((c.toNat:Int)).toNat.toUInt8=c:=by simp
theorem line_ix(s:ByteArray):lineOk s=(decide (Lib.indexByte s.data.toList 10<0) && decide (s.size≤60) && !markOk s):=by
 unfold lineOk;congr 2
 by_cases h:Lib.indexByte s.data.toList 10 = -1
 ·
  have hn:=Lib.indexByte_none h;rw [h];have:s.data.toList.contains 10=false:=by rw [Bool.eq_false_iff];intro hc;simp only [List.contains_iff_mem] at hc;obtain⟨j,hj,he⟩:=List.getElem_of_mem hc;exact hn j (by rw [List.getElem?_eq_getElem hj,he])
  rw [this];rfl
 have hg:=Lib.indexByte_ge s.data.toList 10;obtain⟨o,ho⟩:=Int.eq_ofNat_of_zero_le (show 0≤Lib.indexByte s.data.toList 10 by omega);have hs:=(Lib.indexByte_some ho).1;have:s.data.toList.contains 10=true:=by simp only [List.contains_iff_mem];exact List.mem_of_getElem? hs
 rw [this,ho];simp
theorem fileOk_eq(f:FileM):fileOk f=(nameOk f.name && (decide (f.also.length=0) && (decide (f.lines.length≤60) && f.lines.all lineOk))):=by unfold fileOk;rfl
end Go.Proofs.YtjccmcgglfncdaaGreatDoor
