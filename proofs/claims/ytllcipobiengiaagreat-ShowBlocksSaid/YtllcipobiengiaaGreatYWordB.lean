/- Contracts of package word: Mark, Line; of strings.IndexByte. -/
import Derived.Test.YtllcipobiengiaaGreatYWordA
import Derived.Test.YtllcipobiengiaaGreatYTreeQ
set_option linter.unusedVariables false
set_option linter.unusedSimpArgs false
namespace Go.Proofs.YtllcipobiengiaaGreat
open Go Go.RowKit

set_option maxHeartbeats 1000000 in
set_option maxRecDepth 100000 in
theorem lite_index(s:ByteArray)(c:Int)(w:World) :
  Calls Tryz.prog 218 #[.string s,.int .u8 c] w fun e w'=>e=.returned (.int .i64 (Lib.indexByte s.data.toList c.toNat.toUInt8))∧w'=w:=by
 go_enter Tryz.func218,Tryz.ntmps218
 go_wp2
 rw [run_callFunc_extern Tryz.func234 (by kernel_rfl) (by kernel_rfl) (by kernel_rfl) (e:=Extern.BytealgIndexByte.indexByte) (by kernel_rfl),Lib.run_indexByteString]
 simp only [Result.andThen]
 rw [Oper.upon_value]
 go_wp2
 go_ret
 exact⟨rfl,rfl⟩
set_option maxRecDepth 100000 in
theorem index_any(s:ByteArray)(c:Int)(w:World) :
  Calls Tryz.prog 181 #[.string s,.int .u8 c] w fun e w'=>e=.returned (.int .i64 (Lib.indexByte s.data.toList c.toNat.toUInt8))∧w'=w:=by
 go_enter Tryz.func181,Tryz.ntmps181
 go_wp2_with (go_at_call 218;(with_reducible refine(lite_index _ _ _).mono ?_);rintro e w2 ⟨rfl,rfl⟩)
 go_ret
 exact⟨rfl,rfl⟩

set_option maxHeartbeats 1000000 in
theorem mark_any(s:ByteArray)(w:World)(hs:s.size≤maxLen) :
  Calls Tryz.prog 182 #[.string s] w fun e w'=>e=.returned (.bool (markOk s))∧Below w.heap.size w w':=by
 unfold maxLen at hs
 by_cases h7:s.size<7
 ·
  have HM:=Lh (mark_short h7)
  go_enter Tryz.func182,Tryz.ntmps182
  go_wp2
  go_ret
  exact⟨rvl (congrArg Value.bool HM.out.symm),Below.refl _ _⟩
 ·
  have h0:0<s.size:=by omega
  have HE:=Lh (mark_ext (s:=s) (by omega))
  have hix:∀ w,Calls Tryz.prog 181 #[.string ⟨#[60,61,62,124]⟩,.int .u8 (s[0].toNat:Int)] w fun e w'=>e=.returned (.int .i64 (Lib.indexByte [60,61,62,124] s[0]))∧w'=w:=fun w=>by
   have:=index_any ⟨#[60,61,62,124]⟩ (s[0].toNat:Int) w
   rwa [toUInt8_cast] at this
  have hsg:=sign_ix s[0]
  generalize Lib.indexByte [60,61,62,124] s[0]=ix at *
  cases hm:markAt s[0] with
  | false =>
   rw [hm] at hsg
   have hi:ix<0:=by simpa using hsg
   rw [hm,Bool.false_and] at HE
   clear hm hsg
   go_enter Tryz.func182,Tryz.ntmps182
   go_wp2_with (go_at_call 181;(with_reducible refine(hix _).mono ?_);rintro e w2 ⟨rfl,rfl⟩)
   go_ret
   exact⟨rvl (congrArg Value.bool HE.out.symm),Below.refl _ _⟩
  | true =>
   rw [hm] at hsg
   have hi:¬ ix<0:=by simpa using hsg
   rw [hm,Bool.true_and] at HE
   clear hm hsg
   go_enter Tryz.func182,Tryz.ntmps182
   go_wp2_with (go_at_call 181;(with_reducible refine(hix _).mono ?_);rintro e w2 ⟨rfl,rfl⟩)
   refine wlex (C:=IsOver w2) 6 [] (by kernel_rfl) (by kernel_rfl) (iov (by repeat(first|exact Below.refl _ _|apply Below.drew|apply below_drewN|(refine Below.alloc ?_ (by simp) _)))) ?_
   simp only [Tsc,Tz,Dsc,Dz]
   repeat(first|(refine lxs rfl rfl ?_;simp only [Act.put,Sib,Scs,Scz])|(refine lxo rfl ?_;go_big_quiet_step (fail);refine wpQuiet_nil ?_))
   refine lxe ?_
   go_wp2_with fail
   go_ret
   exact⟨rvl (congrArg Value.bool HE.out.symm),(Below.refl _ _).drew⟩

set_option maxHeartbeats 1000000 in
theorem line_any(s:ByteArray)(w:World)(hs:s.size≤maxLen) :
  Calls Tryz.prog 154 #[.string s] w fun e w'=>e=.returned (.bool (lineOk s))∧Below w.heap.size w w':=by
 have HM:=Lh hs
 unfold maxLen at hs
 have HE:=Lh (line_ix s)
 have hix:∀ w,Calls Tryz.prog 181 #[.string s,.int .u8 10] w fun e w'=>e=.returned (.int .i64 (Lib.indexByte s.data.toList 10))∧w'=w:=fun w=>index_any s 10 w
 generalize Lib.indexByte s.data.toList 10=ix at *
 by_cases h6:s.size≤60
 ·
  by_cases hi:ix<0
  ·
   go_enter Tryz.func154,Tryz.ntmps154
   go_wp2_with (first|(go_at_call 181;(with_reducible refine(hix _).mono ?_);rintro e w2 ⟨rfl,rfl⟩)|(go_at_call 182;(with_reducible refine(mark_any _ _ HM.out).mono ?_);rintro e w2 ⟨rfl,hb⟩))
   go_ret
   refine⟨rvl ?_,hb⟩
   rw [HE.out];simp [hi,h6]
  ·
   have HI:=Lh (show decide (ix<0)=false by simpa using hi)
   go_enter Tryz.func154,Tryz.ntmps154
   go_wp2_with (first|(go_at_call 181;(with_reducible refine(hix _).mono ?_);rintro e w2 ⟨rfl,rfl⟩))
   go_ret
   refine⟨rvl ?_,Below.refl _ _⟩
   rw [HE.out,HI.out];rfl
 ·
  go_enter Tryz.func154,Tryz.ntmps154
  go_wp2
  go_ret
  refine⟨rvl ?_,Below.refl _ _⟩
  rw [HE.out];simp [h6]
end Go.Proofs.YtllcipobiengiaaGreat
