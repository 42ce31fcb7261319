/- Contracts of bruitref14: Name, Mark, Line. Contracts of bruitref14.Line, bruitref15.Texts, Find, Same. Trees that lie in old memory. -/
import Derived.Test.YtllcipobiengiaaGreatYGen
import Derived.Test.YtllcipobiengiaaGreatYTreeP
set_option linter.unusedVariables false
set_option linter.unusedSimpArgs false
namespace Go.Proofs.YtllcipobiengiaaGreat
open Go Go.RowKit

set_option maxHeartbeats 1000000 in
theorem rname_any(s:ByteArray)(w:World)(hs:s.size≤maxLen) :
  Calls Tryz.prog 226 #[.string s] w fun e w'=>e=.returned (.bool (nameOk s))∧Below w.heap.size w w':=by
 unfold maxLen at hs
 go_enter Tryz.func226,Tryz.ntmps226
 go_wp2
 go_loop [3,4] (fun i _=>∃ k:Nat,k≤s.size∧i=.int .i64 k∧Hid ((s.data.toList.take k).all letterB=true)) (fun i _=>s.size - (intOf i).toNat)
 case atStart=>exact⟨0,by omega,rfl,rfl⟩
 case round =>
  obtain⟨k,hk,rfl,HL⟩:=hrel
  by_cases hlt:k<s.size
  ·
   by_cases hb:letterB s[k]=true
   ·
    have HS:=Lh (all_snoc hlt HL.out hb)
    have hc:=letter_yes hb
    clear hb
    rcases hc with h|h|h|⟨h,h'⟩|⟨h,h'⟩
    all_goals
     go_wp2
     go_round
     case rel=>exact⟨k+1,by omega,by go_num,HS⟩
     case measure=>simp [intOf];omega
   ·
    have hb:letterB s[k]=false:=by simpa using hb
    have HN:=Lh (nameOk_bad hlt hb)
    have hc:=letter_no hb
    clear hb
    rcases hc with⟨h,e1,e2,e3⟩|h|⟨h,h',⟨e1,e2,e3⟩,e4⟩|h|⟨h,⟨e1,e2,e3⟩,e4,e5⟩
    all_goals
     go_wp2
     go_ret
     exact⟨rvl (congrArg Value.bool HN.out.symm),Below.refl _ _⟩
  ·
   obtain rfl:k=s.size:=by omega
   have HN:Hid (nameOk s=(decide (1≤s.size) && decide (s.size≤16))):=by
    unfold Hid nameOk
    have:=HL.out
    rw [List.take_of_length_le (by simp)] at this
    rw [this,Bool.true_and]
   by_cases h1:1≤s.size
   all_goals
    go_wp2
    go_ret
    refine⟨rvl ?_,Below.refl _ _⟩
    rw [HN.out]
    first|(simp [h1];omega)|simp [h1]

set_option maxHeartbeats 1000000 in
theorem rmark_any(s:ByteArray)(w:World)(hs:s.size≤maxLen) :
  Calls Tryz.prog 62 #[.string s] w fun e w'=>e=.returned (.bool (markOk s))∧Below w.heap.size w w':=by
 unfold maxLen at hs
 by_cases h7:s.size<7
 ·
  have HM:=Lh (mark_short h7)
  go_enter Tryz.func62,Tryz.ntmps62
  go_wp2
  go_ret
  exact⟨rvl (congrArg Value.bool HM.out.symm),Below.refl _ _⟩
 ·
  have h0:0<s.size:=by omega
  cases hm:markAt s[0] with
  | false =>
   have HM:=Lh (mark_first h0 hm)
   obtain⟨e1,e2,e3,e4,e5,e6,e7,e8⟩:=mark_no hm
   clear hm
   go_enter Tryz.func62,Tryz.ntmps62
   go_wp2
   go_ret
   exact⟨rvl (congrArg Value.bool HM.out.symm),Below.refl _ _⟩
  | true =>
   have HA:Hid ((∀ j,j<7→s.data.toList[j]? = some s[0])→markOk s=true):=fun h=>mark_all (by omega) hm h
   have HO:Hid (∀ j (hj:j<s.size),j<7→s[j]≠s[0]→markOk s=false):=fun j hj h7 hne=>mark_other h0 hj h7 hne
   have hc:=mark_yes hm
   clear hm
   have HG:=Lh (get_list s)
   go_enter Tryz.func62,Tryz.ntmps62
   rcases hc with hc|hc|hc|hc
   all_goals
    go_wp2
    go_loopw [3] (fun i wr=>∃ k:Nat,k≤7∧1≤k∧i=.int .i64 k∧Hid (∀ j,j<k→s.data.toList[j]? = some s[0])∧Below w.heap.size w wr) (fun i _=>7 - (intOf i).toNat)
    case atStart=>exact⟨1,by omega,by omega,rfl,(fun j hj=>by rw [show j=0 by omega];exact HG.out 0 h0),Below.refl _ _⟩
    case round =>
     obtain⟨k,hk,hk1,rfl,HL,hbl⟩:=hrel
     by_cases hlt:k<7
     ·
      have hks:k<s.size:=by omega
      have HOk:=Lh (HO.out k hks hlt)
      have HGk:=Lh (HG.out k hks)
      by_cases he:s[k]=s[0]
      ·
       have hS:Hid (∀ j,j<k+1→s.data.toList[j]? = some s[0]):=by
        intro j hj
        by_cases hjk:j=k
        ·
         subst hjk;rw [HGk.out,he]
        ·
         exact HL.out j (by omega)
       have hbne:((s[k].toNat:Int) != (s[0].toNat:Int))=false:=by rw [he];simp
       have hb2:((s[k].toNat:Int) == (s[0].toNat:Int))=true:=by rw [he];simp
       clear he
       go_wp2_with fail
       refine wlex (C:=IsOver wr) 6 [] (by kernel_rfl) (by kernel_rfl) (iov (by repeat(first|exact Below.refl _ _|apply Below.drew|apply below_drewN|(refine Below.alloc ?_ (by simp) _)))) ?_
       simp only [Tsc,Tz,Dsc,Dz]
       repeat(first|(refine lxs rfl rfl ?_;simp only [Act.put,Sib,Scs,Scz])|(refine lxo rfl ?_;go_big_quiet_step (fail);refine wpQuiet_nil ?_))
       refine lxe ?_
       go_wp2_with fail
       go_roundw
       case rel=>exact⟨k+1,by omega,by omega,by go_num,hS,hbl.drew⟩
       case measure=>simp [intOf];omega
      ·
       have HM:=Lh (HOk.out he)
       have hbne:((s[k].toNat:Int) != (s[0].toNat:Int))=true:=by
        simp;intro h;exact he (UInt8.toNat_inj.1 (by omega))
       have hb2:((s[k].toNat:Int) == (s[0].toNat:Int))=false:=by
        simp;intro h;exact he (UInt8.toNat_inj.1 (by omega))
       clear he
       go_wp2_with fail
       refine wlex (C:=IsOver wr) 6 [] (by kernel_rfl) (by kernel_rfl) (iov (by repeat(first|exact Below.refl _ _|apply Below.drew|apply below_drewN|(refine Below.alloc ?_ (by simp) _)))) ?_
       simp only [Tsc,Tz,Dsc,Dz]
       repeat(first|(refine lxs rfl rfl ?_;simp only [Act.put,Sib,Scs,Scz])|(refine lxo rfl ?_;go_big_quiet_step (fail);refine wpQuiet_nil ?_))
       refine lxe ?_
       go_wp2_with fail
       go_ret
       exact⟨rvl (congrArg Value.bool HM.out.symm),hbl.drew⟩
     ·
      obtain rfl:k=7:=by omega
      have HM:=Lh (HA.out HL.out)
      go_wp2_with fail
      go_ret
      exact⟨rvl (congrArg Value.bool HM.out.symm),hbl⟩
end Go.Proofs.YtllcipobiengiaaGreat
namespace Go.Proofs.YtllcipobiengiaaGreat
open Go Go.RowKit

set_option maxHeartbeats 1000000 in
theorem rline_any(s:ByteArray)(w:World)(hs:s.size≤maxLen) :
  Calls Tryz.prog 20 #[.string s] w fun e w'=>e=.returned (.bool (lineOk s))∧Below w.heap.size w w':=by
 have HM:=Lh hs
 unfold maxLen at hs
 have HG:=Lh (get_list s)
 go_enter Tryz.func20,Tryz.ntmps20
 go_wp2
 go_loop [3] (fun i=>∃ k:Nat,k≤s.size∧i=.int .i64 k∧Hid (∀ j,j<k→s.data.toList[j]? ≠ some 10)) (fun i=>s.size - (intOf i).toNat)
 case atStart=>exact⟨0,by omega,rfl,fun j hj=>by omega⟩
 case round =>
  obtain⟨k,hk,rfl,HL⟩:=hrel
  by_cases hlt:k<s.size
  ·
   have HGk:=Lh (HG.out k hlt)
   by_cases hc:s[k]=10
   ·
    have HN:=Lh (lineOk_has hlt hc)
    have hb:((s[k].toNat:Int) == 10)=true:=by rw [hc];rfl
    clear hc
    go_wp2
    go_ret
    exact⟨rvl (congrArg Value.bool HN.out.symm),Below.refl _ _⟩
   ·
    have HS:Hid (∀ j,j<k+1→s.data.toList[j]? ≠ some 10):=by
     intro j hj
     by_cases hjk:j=k
     ·
      subst hjk;rw [HGk.out];simpa using hc
     ·
      exact HL.out j (by omega)
    have hb:((s[k].toNat:Int) == 10)=false:=by
     simp;intro h;exact hc (UInt8.toNat_inj.1 (by show s[k].toNat=10;omega))
    clear hc
    go_wp2
    go_round
    case rel=>exact⟨k+1,by omega,by go_num,HS⟩
    case measure=>simp [intOf];omega
  ·
   obtain rfl:k=s.size:=by omega
   have HN:=Lh (lineOk_none HL.out)
   by_cases h6:s.size≤60
   ·
    go_wp2_with (go_at_call 62;refine(rmark_any _ _ HM.out).mono ?_;rintro e w1 ⟨rfl,hb1⟩)
    go_ret
    refine⟨rvl ?_,hb1⟩
    rw [HN.out];simp [h6]
   ·
    go_wp2
    go_ret
    refine⟨rvl ?_,Below.refl _ _⟩
    rw [HN.out];simp [h6]

set_option maxHeartbeats 1000000 in
theorem rtexts_any(va vb:Value)(xs ys:List ByteArray)(w:World)(ha:SRow w va xs)(hb:SRow w vb ys) :
  Calls Tryz.prog 23 #[va,vb] w fun e w'=>e=.returned (.bool (sameS xs ys))∧Below w.heap.size w w':=by
 obtain⟨a,ca,rfl,h1,h2,_,hca⟩:=ha.form
 obtain⟨b,cb,rfl,h3,h4,_,hcb⟩:=hb.form
 unfold maxLen at h2 h4
 by_cases hl:xs.length=ys.length
 ·
  have HE:Hid ((∀ j,j<xs.length→xs[j]? = ys[j]?)→xs=ys):=eq_of_all hl
  have HL:=Lh hl
  clear ha hb
  rw [← hl]
  rw [← hl] at h3
  rw [← hl] at hcb
  clear hl
  go_enter Tryz.func23,Tryz.ntmps23
  go_wp2
  go_loopw [5] (fun i wr=>∃ k:Nat,k≤xs.length∧i=.int .i64 k∧Hid (∀ j,j<k→xs[j]? = ys[j]?)∧Below w.heap.size w wr) (fun i _=>xs.length - (intOf i).toNat)
  case atStart=>exact⟨0,by omega,rfl,(fun j hj=>by omega),Below.refl _ _⟩
  case round =>
   obtain⟨k,hk,rfl,HK,hbl⟩:=hrel
   by_cases hlt:k<xs.length
   ·
    obtain⟨bA,oA,rfl,sA,cA⟩:=hca.resolve_left (by omega)
    obtain⟨bB,oB,rfl,sB,cB⟩:=hcb.resolve_left (by omega)
    obtain⟨x,hx⟩:=gol hlt
    obtain⟨y,hy⟩:=gol (xs:=ys) (i:=k) (by have:=HL.out;omega)
    have c1:=(hbl.cell (p:=⟨bA,oA+k,none⟩) sA).trans (cA k x hx)
    have c2:=(hbl.cell (p:=⟨bB,oB+k,none⟩) sB).trans (cB k y hy)
    have sA':bA<wr.heap.size:=Nat.lt_of_lt_of_le sA hbl.size
    have sB':bB<wr.heap.size:=Nat.lt_of_lt_of_le sB hbl.size
    have HXY:=Lh (And.intro hx hy)
    clear hx hy cA cB hca hcb
    by_cases he:x=y
    ·
     subst he
     have HS:Hid (∀ j,j<k+1→xs[j]? = ys[j]?):=by
      intro j hj
      by_cases hjk:j=k
      ·
       subst hjk;rw [HXY.out.1,HXY.out.2]
      ·
       exact HK.out j (by omega)
     go_wp2_with fail
     refine wlex (C:=IsOver wr) 9 [] (by kernel_rfl) (by kernel_rfl) (iov (by repeat(first|exact Below.refl _ _|apply Below.drew|apply below_drewN|(refine Below.alloc ?_ (by simp) _)))) ?_
     simp only [Tsc,Tz,Dsc,Dz]
     repeat(first|(refine lxs rfl rfl ?_;simp only [Act.put,Sib,Scs,Scz])|(refine lxo rfl ?_;go_big_quiet_step (fail);refine wpQuiet_nil ?_))
     refine lxe ?_
     go_wp2_with fail
     go_roundw
     case rel=>exact⟨k+1,by omega,by go_num,HS,hbl.drew⟩
     case measure=>simp [intOf];omega
    ·
     have hne:(x.toList == y.toList)=false:=by simp [ba_list,he]
     have hne2:(x.toList != y.toList)=true:=by simp [ba_list,he]
     have HN:Hid (sameS xs ys=false):=sameS_f (by rintro rfl;rw [HXY.out.1] at HXY;exact he (by simpa using HXY.out.2))
     clear he
     go_wp2_with fail
     refine wlex (C:=IsOver wr) 9 [] (by kernel_rfl) (by kernel_rfl) (iov (by repeat(first|exact Below.refl _ _|apply Below.drew|apply below_drewN|(refine Below.alloc ?_ (by simp) _)))) ?_
     simp only [Tsc,Tz,Dsc,Dz]
     repeat(first|(refine lxs rfl rfl ?_;simp only [Act.put,Sib,Scs,Scz])|(refine lxo rfl ?_;go_big_quiet_step (fail);refine wpQuiet_nil ?_))
     refine lxe ?_
     go_wp2_with fail
     go_ret
     exact⟨rvl (congrArg Value.bool HN.out.symm),hbl.drew⟩
   ·
    obtain rfl:k=xs.length:=by omega
    have HN:Hid (sameS xs ys=true):=sameS_t (HE.out HK.out)
    go_wp2_with fail
    go_ret
    exact⟨rvl (congrArg Value.bool HN.out.symm),hbl⟩
 ·
  have HN:Hid (sameS xs ys=false):=sameS_f (by rintro rfl;exact hl rfl)
  go_enter Tryz.func23,Tryz.ntmps23
  have hb1:((xs.length:Int) != (ys.length:Int))=true:=by simp;omega
  clear hl
  go_wp2
  go_ret
  exact⟨rvl (congrArg Value.bool HN.out.symm),Below.refl _ _⟩
end Go.Proofs.YtllcipobiengiaaGreat
namespace Go.Proofs.YtllcipobiengiaaGreat
open Go Go.RowKit

end Go.Proofs.YtllcipobiengiaaGreat
