/- Contracts of bruitref14: Name, Mark, Line. Contracts of bruitref14.Line, bruitref15.Texts, Find, Same. Trees that lie in old memory. Contracts of bruitref15.Find, Same. -/
import Derived.Test.YtllcipobiengiaaGreatYGen
import Derived.Test.YtllcipobiengiaaGreatYTreeP
namespace Go.Proofs.YtllcipobiengiaaGreat
open Go Go.RowKit

set_option maxHeartbeats 1000000 in
theorem rname_any(s:ByteArray)(w:World)(hs:s.size≤maxLen) :
  Calls Tryz.prog 226 #[.string s] w fun e w'=>e=.returned (.bool (nameOk s))∧Below w.heap.size w w':=by
 unfold maxLen at hs
 go_enter Tryz.func226,Tryz.ntmps226
 go_wp2
 go_loop [3,4] (fun i _=>∃ k:Nat,k≤s.size∧i=.int .i64 k∧Hid ((s.data.toList.take k).all letterB=true)) (fun i _=>s.size - (intOf i).toNat)
 case atStart=>exact⟨0,by omega,rfl,rfl⟩
 case round =>
  obtain⟨k,hk,rfl,HL⟩:=hrel
  by_cases hlt:k<s.size
  ·
   by_cases hb:letterB s[k]=true
   ·
    have HS:=Lib.hid (all_snoc hlt HL.out hb)
    have hc:=letter_yes hb
    clear hb
    rcases hc with h|h|h|⟨h,h'⟩|⟨h,h'⟩
    all_goals
     go_wp2
     go_round
     case rel=>exact⟨k+1,by omega,by go_num,HS⟩
     case measure=>simp [intOf];omega
   ·
    have hb:letterB s[k]=false:=by simpa using hb
    have HN:=Lib.hid (nameOk_bad hlt hb)
    have hc:=letter_no hb
    clear hb
    rcases hc with⟨h,e1,e2,e3⟩|h|⟨h,h',⟨e1,e2,e3⟩,e4⟩|h|⟨h,⟨e1,e2,e3⟩,e4,e5⟩
    all_goals
     go_wp2
     go_ret
     exact⟨rvl (congrArg Value.bool HN.out.symm),Below.refl _ _⟩
  ·
   obtain rfl:k=s.size:=by omega
   have HN:Hid (nameOk s=(decide (1≤s.size) && decide (s.size≤16))):=by
    unfold Hid nameOk
    have:=HL.out
    rw [List.take_of_length_le (by simp)] at this
    rw [this,Bool.true_and]
   by_cases h1:1≤s.size
   all_goals
    go_wp2
    go_ret
    refine⟨rvl ?_,Below.refl _ _⟩
    rw [HN.out]
    first|(simp [h1];omega)|simp [h1]

set_option maxHeartbeats 1000000 in
theorem rmark_any(s:ByteArray)(w:World)(hs:s.size≤maxLen) :
  Calls Tryz.prog 62 #[.string s] w fun e w'=>e=.returned (.bool (markOk s))∧Below w.heap.size w w':=by
 unfold maxLen at hs
 by_cases h7:s.size<7
 ·
  have HM:=Lib.hid (mark_short h7)
  go_enter Tryz.func62,Tryz.ntmps62
  go_wp2
  go_ret
  exact⟨rvl (congrArg Value.bool HM.out.symm),Below.refl _ _⟩
 ·
  have h0:0<s.size:=by omega
  cases hm:markAt s[0] with
  | false =>
   have HM:=Lib.hid (mark_first h0 hm)
   obtain⟨e1,e2,e3,e4,e5,e6,e7,e8⟩:=mark_no hm
   clear hm
   go_enter Tryz.func62,Tryz.ntmps62
   go_wp2
   go_ret
   exact⟨rvl (congrArg Value.bool HM.out.symm),Below.refl _ _⟩
  | true =>
   have HA:Hid ((∀ j,j<7→s.data.toList[j]? = some s[0])→markOk s=true):=fun h=>mark_all (by omega) hm h
   have HO:Hid (∀ j (hj:j<s.size),j<7→s[j]≠s[0]→markOk s=false):=fun j hj h7 hne=>mark_other h0 hj h7 hne
   have hc:=mark_yes hm
   clear hm
   have HG:=Lib.hid (get_list s)
   go_enter Tryz.func62,Tryz.ntmps62
   rcases hc with hc|hc|hc|hc
   all_goals
    go_wp2
    go_loopw [3] (fun i wr=>∃ k:Nat,k≤7∧1≤k∧i=.int .i64 k∧Hid (∀ j,j<k→s.data.toList[j]? = some s[0])∧Below w.heap.size w wr) (fun i _=>7 - (intOf i).toNat)
    case atStart=>exact⟨1,by omega,by omega,rfl,(fun j hj=>by rw [show j=0 by omega];exact HG.out 0 h0),Below.refl _ _⟩
    case round =>
     obtain⟨k,hk,hk1,rfl,HL,hbl⟩:=hrel
     by_cases hlt:k<7
     ·
      have hks:k<s.size:=by omega
      have HOk:=Lib.hid (HO.out k hks hlt)
      have HGk:=Lib.hid (HG.out k hks)
      by_cases he:s[k]=s[0]
      ·
       have hS:Hid (∀ j,j<k+1→s.data.toList[j]? = some s[0]):=by
        intro j hj
        by_cases hjk:j=k
        ·
         subst hjk;rw [HGk.out,he]
        ·
         exact HL.out j (by omega)
       have hbne:((s[k].toNat:Int) != (s[0].toNat:Int))=false:=by rw [he];simp
       have hb2:((s[k].toNat:Int) == (s[0].toNat:Int))=true:=by rw [he];simp
       clear he
       go_wp2_with fail
       refine wlex (C:=IsOver wr) 6 [] (by kernel_rfl) (by kernel_rfl) (iov (by repeat(first|exact Below.refl _ _|apply Below.drew|apply below_drewN|(refine Below.alloc ?_ (by simp) _)))) ?_
       simp only [List.take_succ_cons,List.take_zero,List.drop_succ_cons,List.drop_zero]
       repeat(first|(refine lxs rfl rfl ?_;simp only [Act.put,List.setIfInBounds_toArray,List.set_cons_succ,List.set_cons_zero])|(refine lxo rfl ?_;go_big_quiet_step (fail);refine wpQuiet_nil ?_))
       refine lxe ?_
       go_wp2_with fail
       go_roundw
       case rel=>exact⟨k+1,by omega,by omega,by go_num,hS,hbl.drew⟩
       case measure=>simp [intOf];omega
      ·
       have HM:=Lib.hid (HOk.out he)
       have hbne:((s[k].toNat:Int) != (s[0].toNat:Int))=true:=by
        simp;intro h;exact he (UInt8.toNat_inj.1 (by omega))
       have hb2:((s[k].toNat:Int) == (s[0].toNat:Int))=false:=by
        simp;intro h;exact he (UInt8.toNat_inj.1 (by omega))
       clear he
       go_wp2_with fail
       refine wlex (C:=IsOver wr) 6 [] (by kernel_rfl) (by kernel_rfl) (iov (by repeat(first|exact Below.refl _ _|apply Below.drew|apply below_drewN|(refine Below.alloc ?_ (by simp) _)))) ?_
       simp only [List.take_succ_cons,List.take_zero,List.drop_succ_cons,List.drop_zero]
       repeat(first|(refine lxs rfl rfl ?_;simp only [Act.put,List.setIfInBounds_toArray,List.set_cons_succ,List.set_cons_zero])|(refine lxo rfl ?_;go_big_quiet_step (fail);refine wpQuiet_nil ?_))
       refine lxe ?_
       go_wp2_with fail
       go_ret
       exact⟨rvl (congrArg Value.bool HM.out.symm),hbl.drew⟩
     ·
      obtain rfl:k=7:=by omega
      have HM:=Lib.hid (HA.out HL.out)
      go_wp2_with fail
      go_ret
      exact⟨rvl (congrArg Value.bool HM.out.symm),hbl⟩
end Go.Proofs.YtllcipobiengiaaGreat
namespace Go.Proofs.YtllcipobiengiaaGreat
open Go Go.RowKit

set_option maxHeartbeats 1000000 in
theorem rline_any(s:ByteArray)(w:World)(hs:s.size≤maxLen) :
  Calls Tryz.prog 20 #[.string s] w fun e w'=>e=.returned (.bool (lineOk s))∧Below w.heap.size w w':=by
 have HM:=Lib.hid hs
 unfold maxLen at hs
 have HG:=Lib.hid (get_list s)
 go_enter Tryz.func20,Tryz.ntmps20
 go_wp2
 go_loop [3] (fun i=>∃ k:Nat,k≤s.size∧i=.int .i64 k∧Hid (∀ j,j<k→s.data.toList[j]? ≠ some 10)) (fun i=>s.size - (intOf i).toNat)
 case atStart=>exact⟨0,by omega,rfl,fun j hj=>by omega⟩
 case round =>
  obtain⟨k,hk,rfl,HL⟩:=hrel
  by_cases hlt:k<s.size
  ·
   have HGk:=Lib.hid (HG.out k hlt)
   by_cases hc:s[k]=10
   ·
    have HN:=Lib.hid (lineOk_has hlt hc)
    have hb:((s[k].toNat:Int) == 10)=true:=by rw [hc];rfl
    clear hc
    go_wp2
    go_ret
    exact⟨rvl (congrArg Value.bool HN.out.symm),Below.refl _ _⟩
   ·
    have HS:Hid (∀ j,j<k+1→s.data.toList[j]? ≠ some 10):=by
     intro j hj
     by_cases hjk:j=k
     ·
      subst hjk;rw [HGk.out];simpa using hc
     ·
      exact HL.out j (by omega)
    have hb:((s[k].toNat:Int) == 10)=false:=by
     simp;intro h;exact hc (UInt8.toNat_inj.1 (by show s[k].toNat=10;omega))
    clear hc
    go_wp2
    go_round
    case rel=>exact⟨k+1,by omega,by go_num,HS⟩
    case measure=>simp [intOf];omega
  ·
   obtain rfl:k=s.size:=by omega
   have HN:=Lib.hid (lineOk_none HL.out)
   by_cases h6:s.size≤60
   ·
    go_wp2_with (go_at_call 62;refine(rmark_any _ _ HM.out).mono ?_;rintro e w1 ⟨rfl,hb1⟩)
    go_ret
    refine⟨rvl ?_,hb1⟩
    rw [HN.out];simp [h6]
   ·
    go_wp2
    go_ret
    refine⟨rvl ?_,Below.refl _ _⟩
    rw [HN.out];simp [h6]

end Go.Proofs.YtllcipobiengiaaGreat
namespace Go.Proofs.YtllcipobiengiaaGreat
open Go Go.RowKit

end Go.Proofs.YtllcipobiengiaaGreat
namespace Go.Proofs.YtllcipobiengiaaGreat
open Go Go.RowKit

end Go.Proofs.YtllcipobiengiaaGreat
