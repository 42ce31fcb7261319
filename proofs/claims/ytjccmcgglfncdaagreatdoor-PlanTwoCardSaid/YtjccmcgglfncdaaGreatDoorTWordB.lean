/- What is proved: PlanTwo, for every input; of the listed tables the walk needs the powers of ten. -/
import Derived.Lib.Bytealg
import Derived.Lib.IndexLaws
import Derived.Test.YtjccmcgglfncdaaGreatDoorTWordA
set_option linter.unusedVariables false
set_option linter.unusedSimpArgs false
set_option maxRecDepth 100000
set_option maxHeartbeats 40000000
namespace Go.Proofs.YtjccmcgglfncdaaGreatDoor
open Go
theorem mark_list:∀ {l:List UInt8} {c:UInt8},7≤l.length→l[0]? = some c→markL l=(markAt c && ((l.drop 1).take 6 == l.take 6))
 | c0 :: c1 :: c2 :: c3 :: c4 :: c5 :: c6 :: r,c,_,h=>by
  simp at h;subst h;simp only [markL,Dsc,Dz,Tsc,Tz];congr 1;rw [Bool.eq_iff_iff];simp only [Bool.and_eq_true,beq_iff_eq,List.cons.injEq,and_true];constructor
  · rintro⟨⟨⟨⟨⟨h1,h2⟩,h3⟩,h4⟩,h5⟩,h6⟩;subst h1 h2 h3 h4 h5 h6;simp
  rintro⟨h1,h2,h3,h4,h5,h6⟩;subst h1 h2 h3 h4 h5 h6;simp
 | [],_,h,_=>by simp at h
 | [_],_,h,_=>by simp at h|[_,_],_,h,_=>by simp at h|[_,_,_],_,h,_=>by simp at h|[_,_,_,_],_,h,_=>by simp at h|[_,_,_,_,_],_,h,_=>by simp at h|[_,_,_,_,_,_],_,h,_=>by simp at h
theorem extract_tl(s:ByteArray)(a b:Nat):(s.extract a b).toList=(s.data.toList.drop a).take (b - a):=by rw [ByteArray.toList_eq,ByteArray.data_extract,Array.toList_extract]
theorem mark_ext{s:ByteArray}(h:7≤s.size):markOk s=(markAt (s[0]'(by omega)) && ((s.extract 1 7).toList == (s.extract 0 6).toList)):=by unfold markOk;rw [extract_tl,extract_tl,mark_list h (get_list s 0 (by omega))];rfl
theorem sign_ix(c:UInt8):decide (Lib.indexByte [60,61,62,124] c<0) = !markAt c:=by
 have h:∀ n,n<256→decide (Lib.indexByte [60,61,62,124] (UInt8.ofNat n)<0) = !markAt (UInt8.ofNat n):=by decide +kernel
 have:=h c.toNat c.toNat_lt
 rwa [UInt8.ofNat_toNat] at this
theorem toUInt8_cast(c:UInt8):((c.toNat:Int)).toNat.toUInt8=c:=by simp
theorem line_ix(s:ByteArray):lineOk s=(decide (Lib.indexByte s.data.toList 10<0) && decide (s.size≤60) && !markOk s):=by
 unfold lineOk;congr 2
 by_cases h:Lib.indexByte s.data.toList 10 = -1
 ·
  have hn:=Lib.indexByte_none h;rw [h];have:s.data.toList.contains 10=false:=by rw [Bool.eq_false_iff];intro hc;simp only [List.contains_iff_mem] at hc;obtain⟨j,hj,he⟩:=List.getElem_of_mem hc;exact hn j (by rw [List.getElem?_eq_getElem hj,he])
  rw [this];rfl
 have hg:=Lib.indexByte_ge s.data.toList 10;obtain⟨o,ho⟩:=Int.eq_ofNat_of_zero_le (show 0≤Lib.indexByte s.data.toList 10 by omega);have hs:=(Lib.indexByte_some ho).1;have:s.data.toList.contains 10=true:=by simp only [List.contains_iff_mem];exact List.mem_of_getElem? hs
 rw [this,ho];simp
theorem fileOk_eq(f:FileM):fileOk f=(nameOk f.name && (decide (f.also.length=0) && (decide (f.lines.length≤60) && f.lines.all lineOk))):=by unfold fileOk;rfl
open Go.RowKit
theorem lite_index(s:ByteArray)(c:Int)(w:World) :
  Calls Tryz.prog 257 #[.string s,.int .u8 c] w fun e w'=>e=.returned (.int .i64 (Lib.indexByte s.data.toList c.toNat.toUInt8))∧w'=w:=by go_enter Tryz.func257,Tryz.ntmps257;go_wp2;rw [run_callFunc_extern Tryz.func299 (by kernel_rfl) (by kernel_rfl) (by kernel_rfl) (e:=Extern.BytealgIndexByte.indexByte) (by kernel_rfl),Lib.run_indexByteString];simp only [Result.andThen];rw [Oper.upon_value];go_wp2;go_ret;exact⟨rfl,rfl⟩
theorem index_any(s:ByteArray)(c:Int)(w:World) :
  Calls Tryz.prog 211 #[.string s,.int .u8 c] w fun e w'=>e=.returned (.int .i64 (Lib.indexByte s.data.toList c.toNat.toUInt8))∧w'=w:=by go_enter Tryz.func211,Tryz.ntmps211;go_wp2_with (go_at_call 257;(with_reducible refine(lite_index _ _ _).mono ?_);rintro e w2 ⟨rfl,rfl⟩);go_ret;exact⟨rfl,rfl⟩
theorem mark_any(s:ByteArray)(w:World)(hs:s.size≤maxLen) :
  Calls Tryz.prog 212 #[.string s] w fun e w'=>e=.returned (.bool (markOk s))∧Be w w':=by
 unfold maxLen at hs
 by_cases h7:s.size<7
 · have HM:=Lh (mark_short h7);go_enter Tryz.func212,Tryz.ntmps212;go_wp2;go_ret;exact⟨rvb HM.o,Below.refl _ _⟩
 have h0:0<s.size:=by omega
 have HE:=Lh (mark_ext (s:=s) (by omega));have hix:∀ w,Calls Tryz.prog 211 #[.string ⟨#[60,61,62,124]⟩,.int .u8 (s[0].toNat:Int)] w fun e w'=>e=.returned (.int .i64 (Lib.indexByte [60,61,62,124] s[0]))∧w'=w:=fun w=>by
  have:=index_any ⟨#[60,61,62,124]⟩ (s[0].toNat:Int) w
  rwa [toUInt8_cast] at this
 have hsg:=sign_ix s[0];generalize Lib.indexByte [60,61,62,124] s[0]=ix at *;cases hm:markAt s[0] with
 | false =>
  rw [hm] at hsg;have hi:ix<0:=by simpa using hsg
  rw [hm,Bool.false_and] at HE;clear hm hsg;go_enter Tryz.func212,Tryz.ntmps212;go_wp2_with (go_at_call 211;(with_reducible refine(hix _).mono ?_);rintro e w2 ⟨rfl,rfl⟩);go_ret;exact⟨rvb HE.o,Below.refl _ _⟩
 | true =>
  rw [hm] at hsg;have hi:¬ ix<0:=by simpa using hsg
  rw [hm,Bool.true_and] at HE;clear hm hsg;go_enter Tryz.func212,Tryz.ntmps212;go_wp2_with (go_at_call 211;(with_reducible refine(hix _).mono ?_);rintro e w2 ⟨rfl,rfl⟩);refine wlex (C:=IsOver w2) 6 [] (by kernel_rfl) (by kernel_rfl) (iov (by repeat(first|exact Below.refl _ _|apply Below.drew|apply below_drewN|(refine Below.alloc ?_ (by simp) _)))) ?_;simp only [Tsc,Tz,Dsc,Dz];repeat refine lxq ?_
  refine lxe ?_;go_wp2;go_ret;exact⟨rvb HE.o,(Below.refl _ _).drew⟩
theorem line_any(s:ByteArray)(w:World)(hs:s.size≤maxLen) :
  Calls Tryz.prog 136 #[.string s] w fun e w'=>e=.returned (.bool (lineOk s))∧Be w w':=by
 have HM:=Lh hs;unfold maxLen at hs;have HE:=Lh (line_ix s);have hix:∀ w,Calls Tryz.prog 211 #[.string s,.int .u8 10] w fun e w'=>e=.returned (.int .i64 (Lib.indexByte s.data.toList 10))∧w'=w:=fun w=>index_any s 10 w;generalize Lib.indexByte s.data.toList 10=ix at *
 by_cases h6:s.size≤60
 ·
  by_cases hi:ix<0
  · go_enter Tryz.func136,Tryz.ntmps136;go_wp2_with (first|(go_at_call 211;(with_reducible refine(hix _).mono ?_);rintro e w2 ⟨rfl,rfl⟩)|(go_at_call 212;(with_reducible refine(mark_any _ _ HM.o).mono ?_);rintro e w2 ⟨rfl,hb⟩));go_ret;refine⟨rvl ?_,hb⟩;rw [HE.o];simp [hi,h6]
  have HI:=Lh (show decide (ix<0)=false by simpa using hi);go_enter Tryz.func136,Tryz.ntmps136;go_wp2_with (first|(go_at_call 211;(with_reducible refine(hix _).mono ?_);rintro e w2 ⟨rfl,rfl⟩));go_ret;refine⟨rvl ?_,Below.refl _ _⟩;rw [HE.o,HI.o];rfl
 go_enter Tryz.func136,Tryz.ntmps136;go_wp2;go_ret;refine⟨rvl ?_,Below.refl _ _⟩;rw [HE.o];simp [h6]
end Go.Proofs.YtjccmcgglfncdaaGreatDoor
