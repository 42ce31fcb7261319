/- Part of the proof that of any graph each file's lines, whose they are, and how many lines any author has, are as the document says. No conditions. -/
import Derived.Test.YtanfebljiblhbaaGreatDoorYGen
import Derived.Test.YtanfebljiblhbaaGreatDoorYTreeP
import Derived.Laws.RangeAny
set_option linter.unusedVariables false
set_option linter.unusedSimpArgs false
set_option maxRecDepth 100000
set_option maxHeartbeats 40000000
namespace Go.Proofs.YtanfebljiblhbaaGreatDoor
open Go Go.RowKit
theorem rname_any(s:ByteArray)(w:World)(hs:s.size≤maxLen) :
  Calls Tryz.prog 28 #[.string s] w fun e w'=>e=.returned (.bool (nameOk s))∧Be w w':=by
 unfold maxLen at hs;go_enter Tryz.func28,Tryz.ntmps28;go_wp2;go_loop [3,4] (fun i _=>∃ k:Nat,k≤s.size∧i=.int .i64 k∧Hid ((s.data.toList.take k).all letterB=true)) (fun i _=>s.size - (intOf i).toNat)
 case atStart=>exact⟨0,by omega,rfl,rfl⟩
 obtain⟨k,hk,rfl,HL⟩:=hrel
 by_cases hlt:k<s.size
 ·
  by_cases hb:letterB s[k]=true
  ·
   have HS:=Lh (all_snoc hlt HL.o hb);have hc:=letter_yes hb;clear hb;rcases hc with h|h|h|⟨h,h'⟩|⟨h,h'⟩
   all_goals
    go_wp2
    go_round
    case rel=>exact⟨k+1,by omega,by go_num,HS⟩
    case measure=>simp [intOf];omega
  have hb:letterB s[k]=false:=by simpa using hb
  have HN:=Lh (nameOk_bad hlt hb);have hc:=letter_no hb;clear hb;rcases hc with⟨h,e1,e2,e3⟩|h|⟨h,h',⟨e1,e2,e3⟩,e4⟩|h|⟨h,⟨e1,e2,e3⟩,e4,e5⟩
  all_goals
   go_wp2
   go_ret
   exact⟨rvb HN.o,Below.refl _ _⟩
 obtain rfl:k=s.size:=by omega
 have HN:Hid (nameOk s=(decide (1≤s.size) && decide (s.size≤16))):=by unfold Hid nameOk;have:=HL.o;rw [List.take_of_length_le (by simp)] at this;rw [this,Bool.true_and]
 by_cases h1:1≤s.size
 all_goals
  go_wp2
  go_ret
  refine⟨rvl ?_,Below.refl _ _⟩
  rw [HN.o]
  first|(simp [h1];omega)|simp [h1]
theorem rmark_any(s:ByteArray)(w:World)(hs:s.size≤maxLen) :
  Calls Tryz.prog 29 #[.string s] w fun e w'=>e=.returned (.bool (markOk s))∧Be w w':=by
 unfold maxLen at hs
 by_cases h7:s.size<7
 · have HM:=Lh (mark_short h7);go_enter Tryz.func29,Tryz.ntmps29;go_wp2;go_ret;exact⟨rvb HM.o,Below.refl _ _⟩
 have h0:0<s.size:=by omega
 cases hm:markAt s[0] with
 | false =>have HM:=Lh (mark_first h0 hm);obtain⟨e1,e2,e3,e4,e5,e6,e7,e8⟩:=mark_no hm;clear hm;go_enter Tryz.func29,Tryz.ntmps29;go_wp2;go_ret;exact⟨rvb HM.o,Below.refl _ _⟩
 | true =>
  have HA:Hid ((∀ j,j<7→s.data.toList[j]? = some s[0])→markOk s=true):=fun h=>mark_all (by omega) hm h;have HO:Hid (∀ j (hj:j<s.size),j<7→s[j]≠s[0]→markOk s=false):=fun j hj h7 hne=>mark_other h0 hj h7 hne;have hc:=mark_yes hm;clear hm;have HG:=Lh (get_list s);go_enter Tryz.func29,Tryz.ntmps29;rcases hc with hc|hc|hc|hc
  all_goals
   go_wp2
   go_loopw [3] (fun i wr=>∃ k:Nat,k≤7∧1≤k∧i=.int .i64 k∧Hid (∀ j,j<k→s.data.toList[j]? = some s[0])∧Be w wr) (fun i _=>7 - (intOf i).toNat)
   case atStart=>exact⟨1,by omega,by omega,rfl,(fun j hj=>by rw [show j=0 by omega];exact HG.o 0 h0),Below.refl _ _⟩
   case round =>
    obtain⟨k,hk,hk1,rfl,HL,hbl⟩:=hrel
    by_cases hlt:k<7
    ·
     have hks:k<s.size:=by omega
     have HOk:=Lh (HO.o k hks hlt)
     have HGk:=Lh (HG.o k hks)
     by_cases he:s[k]=s[0]
     ·
      have hS:Hid (∀ j,j<k+1→s.data.toList[j]? = some s[0]):=by
       intro j hj
       by_cases hjk:j=k
       ·
        subst hjk;rw [HGk.o,he]
       ·
        exact HL.o j (by omega)
      have hbne:((s[k].toNat:Int) != (s[0].toNat:Int))=false:=by rw [he];simp
      have hb2:((s[k].toNat:Int) == (s[0].toNat:Int))=true:=by rw [he];simp
      clear he
      go_wp2_with fail
      refine wlex (C:=IsOver wr) 6 [] (by kernel_rfl) (by kernel_rfl) (iov (by repeat(first|exact Below.refl _ _|apply Below.drew|apply below_drewN|(refine Below.alloc ?_ (by simp) _)))) ?_
      simp only [Tsc,Tz,Dsc,Dz]
      repeat refine lxq ?_
      refine lxe ?_
      go_wp2
      go_roundw
      case rel=>exact⟨k+1,by omega,by omega,by go_num,hS,hbl.drew⟩
      case measure=>simp [intOf];omega
     ·
      have HM:=Lh (HOk.o he)
      have hbne:((s[k].toNat:Int) != (s[0].toNat:Int))=true:=by
       simp;intro h;exact he (UInt8.toNat_inj.1 (by omega))
      have hb2:((s[k].toNat:Int) == (s[0].toNat:Int))=false:=by
       simp;intro h;exact he (UInt8.toNat_inj.1 (by omega))
      clear he
      go_wp2_with fail
      refine wlex (C:=IsOver wr) 6 [] (by kernel_rfl) (by kernel_rfl) (iov (by repeat(first|exact Below.refl _ _|apply Below.drew|apply below_drewN|(refine Below.alloc ?_ (by simp) _)))) ?_
      simp only [Tsc,Tz,Dsc,Dz]
      repeat refine lxq ?_
      refine lxe ?_
      go_wp2
      go_ret
      exact⟨rvb HM.o,hbl.drew⟩
    ·
     obtain rfl:k=7:=by omega
     have HM:=Lh (HA.o HL.o)
     go_wp2
     go_ret
     exact⟨rvb HM.o,hbl⟩
theorem rline_any(s:ByteArray)(w:World)(hs:s.size≤maxLen) :
  Calls Tryz.prog 61 #[.string s] w fun e w'=>e=.returned (.bool (lineOk s))∧Be w w':=by
 have HM:=Lh hs;unfold maxLen at hs;have HG:=Lh (get_list s);go_enter Tryz.func61,Tryz.ntmps61;go_wp2;go_loop [3] (fun i=>∃ k:Nat,k≤s.size∧i=.int .i64 k∧Hid (∀ j,j<k→s.data.toList[j]? ≠ some 10)) (fun i=>s.size - (intOf i).toNat)
 case atStart=>exact⟨0,by omega,rfl,fun j hj=>by omega⟩
 obtain⟨k,hk,rfl,HL⟩:=hrel
 by_cases hlt:k<s.size
 ·
  have HGk:=Lh (HG.o k hlt)
  by_cases hc:s[k]=10
  · have HN:=Lh (lineOk_has hlt hc);have hb:((s[k].toNat:Int) == 10)=true:=(by rw [hc];rfl);clear hc;go_wp2;go_ret;exact⟨rvb HN.o,Below.refl _ _⟩
  have HS:Hid (∀ j,j<k+1→s.data.toList[j]? ≠ some 10):=by
   intro j hj
   by_cases hjk:j=k
   · subst hjk;rw [HGk.o];simpa using hc
   exact HL.o j (by omega)
  have hb:((s[k].toNat:Int) == 10)=false:=by simp;intro h;exact hc (UInt8.toNat_inj.1 (by show s[k].toNat=10;omega))
  clear hc;go_wp2;go_round
  case rel=>exact⟨k+1,by omega,by go_num,HS⟩
  simp [intOf];omega
 obtain rfl:k=s.size:=by omega
 have HN:=Lh (lineOk_none HL.o)
 by_cases h6:s.size≤60
 · go_wp2_with (go_at_call 29;refine(rmark_any _ _ HM.o).mono ?_;rintro e w1 ⟨rfl,hb1⟩);go_ret;refine⟨rvl ?_,hb1⟩;rw [HN.o];simp [h6]
 go_wp2;go_ret;refine⟨rvl ?_,Below.refl _ _⟩;rw [HN.o];simp [h6]
theorem letter_any(n:Nat)(w:World)(hn:n≤2147483647) :
  Calls Tryz.prog 247 #[.int .i32 (n:Int)] w fun e w'=>e=.returned (.bool (letterN n))∧w'=w:=by
 go_enter Tryz.func247,Tryz.ntmps247;cases hb:letterN n with
 | true =>
  rcases letterN_yes hb with rfl|rfl|rfl|⟨h,h'⟩|⟨h,h'⟩
  all_goals
   clear hb
   go_wp2
   go_ret
   exact⟨rfl,rfl⟩
 | false =>
  rcases letterN_no hb with⟨h,e1,e2,e3⟩|rfl|⟨h,h',⟨e1,e2,e3⟩,e4⟩|rfl|⟨h,⟨e1,e2,e3⟩,e4,e5⟩
  all_goals
   clear hb
   go_wp2
   go_ret
   exact⟨rfl,rfl⟩
theorem below_iter(w:World)(s:ByteArray)(k:Nat):Be w (w.iter s k):=(Below.refl _ _).alloc (Nat.le_refl _) _
theorem name_any(s:ByteArray)(w:World)(hs:s.size≤maxLen) :
  Calls Tryz.prog 199 #[.string s] w fun e w'=>e=.returned (.bool (nameOk s))∧Be w w':=by
 unfold maxLen at hs;go_enter Tryz.func199,Tryz.ntmps199;go_wp2;go_loopw [4] (fun _ w'=>∃ k:Nat,k≤s.size∧w'=w.iter s k∧Hid ((s.data.toList.take k).all letterB=true)) (fun _ w'=>s.size - w'.iterPos w.heap.size)
 case atStart=>exact⟨0,by omega,rfl,rfl⟩
 obtain⟨k,hk,rfl,HL⟩:=hrel
 by_cases hp:k<s.size
 ·
  by_cases ha:s[k].toNat<128
  ·
   have hnx:∀ ty,(Instr.next (.pointer (some ⟨w.heap.size,0,none⟩)) true ty).run Tryz.prog (w.iter s k)=_:=fun ty=>run_next_ascii w s k ty hp ha;have hle:s[k].toNat≤2147483647:=(by omega);cases hb:letterB s[k] with
   | true =>
    have HS:=Lh (all_snoc hp HL.o hb);have hl:letterN s[k].toNat=true:=(by rw [letterN_of];exact hb);clear hb;go_wp2_with (go_at_call 247;(with_reducible refine(letter_any _ _ hle).mono ?_);rintro e w2 ⟨rfl,rfl⟩);go_roundw
    case rel=>exact⟨k+1,by omega,rfl,HS⟩
    simp;omega
   | false =>have HN:=Lh (nameOk_bad hp hb);have hl:letterN s[k].toNat=false:=(by rw [letterN_of];exact hb);clear hb;go_wp2_with (go_at_call 247;(with_reducible refine(letter_any _ _ hle).mono ?_);rintro e w2 ⟨rfl,rfl⟩);go_ret;exact⟨rvb HN.o,below_iter _ _ _⟩
  have hnx:∀ ty,(Instr.next (.pointer (some ⟨w.heap.size,0,none⟩)) true ty).run Tryz.prog (w.iter s k)=_:=fun ty=>run_next_any w s k ty hp;have hd:=decode_high s k hp (by omega);have hle:=decode_le s k;have HN:=Lh (nameOk_bad hp (letterB_high (by omega)));have hl:letterN (Utf8.decode s k).1=false:=letterN_high hd.1;generalize (Utf8.decode s k).1=r at *;generalize (Utf8.decode s k).2=q at *;clear hd ha;go_wp2_with (go_at_call 247;(with_reducible refine(letter_any _ _ hle).mono ?_);rintro e w2 ⟨rfl,rfl⟩);go_ret;exact⟨rvb HN.o,below_iter _ _ _⟩
 have hnx:∀ ty,(Instr.next (.pointer (some ⟨w.heap.size,0,none⟩)) true ty).run Tryz.prog (w.iter s k)=_:=fun ty=>run_next_end w s k ty hp;obtain rfl:k=s.size:=by omega
 have hall:s.data.toList.all letterB=true:=by
  have:=HL.o
  rwa [List.take_of_length_le (by simp)] at this
 have HN:=Lh (nameOk_all hall);clear hall
 by_cases h1:1≤s.size
 · obtain⟨g1,g2⟩:=nonempty_tl h1;go_wp2;go_ret;refine⟨rvl ?_,below_iter _ _ _⟩;rw [HN.o];simp [h1];try omega
 have g1:=empty_tl (s:=s) (by omega);go_wp2;go_ret;refine⟨rvl ?_,below_iter _ _ _⟩;rw [HN.o];simp [h1]
end Go.Proofs.YtanfebljiblhbaaGreatDoor
