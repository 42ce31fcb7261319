/- What is proved: MergeTurns, for every input; of the listed tables the walk needs the powers of ten. -/
import Derived.Test.YtjccmcgglfncdaaGreatDoorUGen
import Derived.Test.YtjccmcgglfncdaaGreatDoorUTreeP
import Derived.Laws.RangeAny
import Derived.Lib.Bytealg
import Derived.Lib.IndexLaws
set_option linter.unusedVariables false
set_option linter.unusedSimpArgs false
set_option maxRecDepth 100000
set_option maxHeartbeats 40000000
namespace Go.Proofs.YtjccmcgglfncdaaGreatDoor
open Go
section
open Go.RowKit
theorem rname_any(s:ByteArray)(w:World)(hs:s.size≤maxLen) :
  Calls Tryz.prog 54 #[.string s] w fun e w'=>e=.returned (.bool (nameOk s))∧Be w w':=by
 unfold maxLen at hs;go_enter Tryz.func54,Tryz.ntmps54;go_wp2;go_loop [3,4] (fun i _=>∃ k:Nat,k≤s.size∧i=.int .i64 k∧Hid ((s.data.toList.take k).all letterB=true)) (fun i _=>s.size - (intOf i).toNat)
 case atStart=>exact⟨0,by omega,rfl,rfl⟩
 obtain⟨k,hk,rfl,HL⟩:=hrel
 by_cases hlt:k<s.size
 ·
  by_cases hb:letterB s[k]=true
  ·
   have HS:=Lh (all_snoc hlt HL.o hb);have hc:=letter_yes hb;clear hb;rcases hc with h|h|h|⟨h,h'⟩|⟨h,h'⟩
   all_goals
    go_wp2
    go_round
    case rel=>exact⟨k+1,by omega,by go_num,HS⟩
    case measure=>simp [intOf];omega
  have hb:letterB s[k]=false:=by simpa using hb
  have HN:=Lh (nameOk_bad hlt hb);have hc:=letter_no hb;clear hb;rcases hc with⟨h,e1,e2,e3⟩|h|⟨h,h',⟨e1,e2,e3⟩,e4⟩|h|⟨h,⟨e1,e2,e3⟩,e4,e5⟩
  all_goals
   go_wp2
   go_ret
   exact⟨rvb HN.o,Below.refl _ _⟩
 obtain rfl:k=s.size:=by omega
 have HN:Hid (nameOk s=(decide (1≤s.size) && decide (s.size≤16))):=by unfold Hid nameOk;have:=HL.o;rw [List.take_of_length_le (by simp)] at this;rw [this,Bool.true_and]
 by_cases h1:1≤s.size
 all_goals
  go_wp2
  go_ret
  refine⟨rvl ?_,Below.refl _ _⟩
  rw [HN.o]
  first|(simp [h1];omega)|simp [h1]
theorem rmark_any(s:ByteArray)(w:World)(hs:s.size≤maxLen) :
  Calls Tryz.prog 115 #[.string s] w fun e w'=>e=.returned (.bool (markOk s))∧Be w w':=by
 unfold maxLen at hs
 by_cases h7:s.size<7
 · have HM:=Lh (mark_short h7);go_enter Tryz.func115,Tryz.ntmps115;go_wp2;go_ret;exact⟨rvb HM.o,Below.refl _ _⟩
 have h0:0<s.size:=by omega
 cases hm:markAt s[0] with
 | false =>have HM:=Lh (mark_first h0 hm);obtain⟨e1,e2,e3,e4,e5,e6,e7,e8⟩:=mark_no hm;clear hm;go_enter Tryz.func115,Tryz.ntmps115;go_wp2;go_ret;exact⟨rvb HM.o,Below.refl _ _⟩
 | true =>
  have HA:Hid ((∀ j,j<7→s.data.toList[j]? = some s[0])→markOk s=true):=fun h=>mark_all (by omega) hm h;have HO:Hid (∀ j (hj:j<s.size),j<7→s[j]≠s[0]→markOk s=false):=fun j hj h7 hne=>mark_other h0 hj h7 hne;have hc:=mark_yes hm;clear hm;have HG:=Lh (get_list s);go_enter Tryz.func115,Tryz.ntmps115;rcases hc with hc|hc|hc|hc
  all_goals
   go_wp2
   go_loopw [3] (fun i wr=>∃ k:Nat,k≤7∧1≤k∧i=.int .i64 k∧Hid (∀ j,j<k→s.data.toList[j]? = some s[0])∧Be w wr) (fun i _=>7 - (intOf i).toNat)
   case atStart=>exact⟨1,by omega,by omega,rfl,(fun j hj=>by rw [show j=0 by omega];exact HG.o 0 h0),Below.refl _ _⟩
   case round =>
    obtain⟨k,hk,hk1,rfl,HL,hbl⟩:=hrel
    by_cases hlt:k<7
    ·
     have hks:k<s.size:=by omega
     have HOk:=Lh (HO.o k hks hlt)
     have HGk:=Lh (HG.o k hks)
     by_cases he:s[k]=s[0]
     ·
      have hS:Hid (∀ j,j<k+1→s.data.toList[j]? = some s[0]):=by
       intro j hj
       by_cases hjk:j=k
       ·
        subst hjk;rw [HGk.o,he]
       ·
        exact HL.o j (by omega)
      have hbne:((s[k].toNat:Int) != (s[0].toNat:Int))=false:=by rw [he];simp
      have hb2:((s[k].toNat:Int) == (s[0].toNat:Int))=true:=by rw [he];simp
      clear he
      go_wp2_with fail
      refine wlex (C:=IsOver wr) 6 [] (by kernel_rfl) (by kernel_rfl) (iov (by repeat(first|exact Below.refl _ _|apply Below.drew|apply below_drewN|(refine Below.alloc ?_ (by simp) _)))) ?_
      simp only [Tsc,Tz,Dsc,Dz]
      repeat refine lxq ?_
      refine lxe ?_
      go_wp2
      go_roundw
      case rel=>exact⟨k+1,by omega,by omega,by go_num,hS,hbl.drew⟩
      case measure=>simp [intOf];omega
     ·
      have HM:=Lh (HOk.o he)
      have hbne:((s[k].toNat:Int) != (s[0].toNat:Int))=true:=by
       simp;intro h;exact he (UInt8.toNat_inj.1 (by omega))
      have hb2:((s[k].toNat:Int) == (s[0].toNat:Int))=false:=by
       simp;intro h;exact he (UInt8.toNat_inj.1 (by omega))
      clear he
      go_wp2_with fail
      refine wlex (C:=IsOver wr) 6 [] (by kernel_rfl) (by kernel_rfl) (iov (by repeat(first|exact Below.refl _ _|apply Below.drew|apply below_drewN|(refine Below.alloc ?_ (by simp) _)))) ?_
      simp only [Tsc,Tz,Dsc,Dz]
      repeat refine lxq ?_
      refine lxe ?_
      go_wp2
      go_ret
      exact⟨rvb HM.o,hbl.drew⟩
    ·
     obtain rfl:k=7:=by omega
     have HM:=Lh (HA.o HL.o)
     go_wp2
     go_ret
     exact⟨rvb HM.o,hbl⟩
end
section
open Go.RowKit
theorem rline_any(s:ByteArray)(w:World)(hs:s.size≤maxLen) :
  Calls Tryz.prog 55 #[.string s] w fun e w'=>e=.returned (.bool (lineOk s))∧Be w w':=by
 have HM:=Lh hs;unfold maxLen at hs;have HG:=Lh (get_list s);go_enter Tryz.func55,Tryz.ntmps55;go_wp2;go_loop [3] (fun i=>∃ k:Nat,k≤s.size∧i=.int .i64 k∧Hid (∀ j,j<k→s.data.toList[j]? ≠ some 10)) (fun i=>s.size - (intOf i).toNat)
 case atStart=>exact⟨0,by omega,rfl,fun j hj=>by omega⟩
 obtain⟨k,hk,rfl,HL⟩:=hrel
 by_cases hlt:k<s.size
 ·
  have HGk:=Lh (HG.o k hlt)
  by_cases hc:s[k]=10
  · have HN:=Lh (lineOk_has hlt hc);have hb:((s[k].toNat:Int) == 10)=true:=(by rw [hc];rfl);clear hc;go_wp2;go_ret;exact⟨rvb HN.o,Below.refl _ _⟩
  have HS:Hid (∀ j,j<k+1→s.data.toList[j]? ≠ some 10):=by
   intro j hj
   by_cases hjk:j=k
   · subst hjk;rw [HGk.o];simpa using hc
   exact HL.o j (by omega)
  have hb:((s[k].toNat:Int) == 10)=false:=by simp;intro h;exact hc (UInt8.toNat_inj.1 (by show s[k].toNat=10;omega))
  clear hc;go_wp2;go_round
  case rel=>exact⟨k+1,by omega,by go_num,HS⟩
  simp [intOf];omega
 obtain rfl:k=s.size:=by omega
 have HN:=Lh (lineOk_none HL.o)
 by_cases h6:s.size≤60
 · go_wp2_with (go_at_call 115;refine(rmark_any _ _ HM.o).mono ?_;rintro e w1 ⟨rfl,hb1⟩);go_ret;refine⟨rvl ?_,hb1⟩;rw [HN.o];simp [h6]
 go_wp2;go_ret;refine⟨rvl ?_,Below.refl _ _⟩;rw [HN.o];simp [h6]
theorem rtexts_any(va vb:Value)(xs ys:List ByteArray)(w:World)(ha:SRow w va xs)(hb:SRow w vb ys) :
  Calls Tryz.prog 56 #[va,vb] w fun e w'=>e=.returned (.bool (sameS xs ys))∧Be w w':=by
 obtain⟨a,ca,rfl,h1,h2,_,hca⟩:=ha.form;obtain⟨b,cb,rfl,h3,h4,_,hcb⟩:=hb.form;unfold maxLen at h2 h4
 by_cases hl:xs.length=ys.length
 rotate_left
 ·
  have HN:Hid (sameS xs ys=false):=sameS_f (by rintro rfl;exact hl rfl);go_enter Tryz.func56,Tryz.ntmps56;have hb1:((xs.length:Int) != (ys.length:Int))=true:=by simp;omega
  clear hl;go_wp2;go_ret;exact⟨rvb HN.o,Below.refl _ _⟩
 have HE:Hid ((∀ j,j<xs.length→xs[j]? = ys[j]?)→xs=ys):=eq_of_all hl;have HL:=Lh hl;clear ha hb;rw [← hl];rw [← hl] at h3;rw [← hl] at hcb;clear hl;go_enter Tryz.func56,Tryz.ntmps56;go_wp2;go_loopw [5] (fun i wr=>∃ k:Nat,k≤xs.length∧i=.int .i64 k∧Hid (∀ j,j<k→xs[j]? = ys[j]?)∧Be w wr) (fun i _=>xs.length - (intOf i).toNat)
 case atStart=>exact⟨0,by omega,rfl,(fun j hj=>by omega),Below.refl _ _⟩
 obtain⟨k,hk,rfl,HK,hbl⟩:=hrel
 by_cases hlt:k<xs.length
 rotate_left
 ·
  obtain rfl:k=xs.length:=by omega
  have HN:Hid (sameS xs ys=true):=sameS_t (HE.o HK.o);go_wp2;go_ret;exact⟨rvb HN.o,hbl⟩
 obtain⟨bA,oA,rfl,sA,cA⟩:=hca.resolve_left (by omega);obtain⟨bB,oB,rfl,sB,cB⟩:=hcb.resolve_left (by omega);obtain⟨x,hx⟩:=gol hlt;obtain⟨y,hy⟩:=gol (xs:=ys) (i:=k) (by have:=HL.o;omega);have c1:=(hbl.cell (p:=⟨bA,oA+k,none⟩) sA).trans (cA k x hx);have c2:=(hbl.cell (p:=⟨bB,oB+k,none⟩) sB).trans (cB k y hy);have sA':bA<wr.heap.size:=Nat.lt_of_lt_of_le sA hbl.size;have sB':bB<wr.heap.size:=Nat.lt_of_lt_of_le sB hbl.size;have HXY:=Lh (And.intro hx hy);clear hx hy cA cB hca hcb
 by_cases he:x=y
 ·
  subst he;have HS:Hid (∀ j,j<k+1→xs[j]? = ys[j]?):=by
   intro j hj
   by_cases hjk:j=k
   · subst hjk;rw [HXY.o.1,HXY.o.2]
   exact HK.o j (by omega)
  go_wp2_with fail;refine wlex (C:=IsOver wr) 9 [] (by kernel_rfl) (by kernel_rfl) (iov (by repeat(first|exact Below.refl _ _|apply Below.drew|apply below_drewN|(refine Below.alloc ?_ (by simp) _)))) ?_;simp only [Tsc,Tz,Dsc,Dz];repeat refine lxq ?_
  refine lxe ?_;go_wp2;go_roundw
  case rel=>exact⟨k+1,by omega,by go_num,HS,hbl.drew⟩
  simp [intOf];omega
 have hne:(x.toList == y.toList)=false:=by simp [ba_list,he]
 have hne2:(x.toList != y.toList)=true:=by simp [ba_list,he]
 have HN:Hid (sameS xs ys=false):=sameS_f (by rintro rfl;rw [HXY.o.1] at HXY;exact he (by simpa using HXY.o.2));clear he;go_wp2_with fail;refine wlex (C:=IsOver wr) 9 [] (by kernel_rfl) (by kernel_rfl) (iov (by repeat(first|exact Below.refl _ _|apply Below.drew|apply below_drewN|(refine Below.alloc ?_ (by simp) _)))) ?_;simp only [Tsc,Tz,Dsc,Dz];repeat refine lxq ?_
 refine lxe ?_;go_wp2;go_ret;exact⟨rvb HN.o,hbl.drew⟩
end
section
open Go.RowKit
def encF(x:FileM × Value × Value):List Value:=[.string x.1.name,x.2.1,x.2.2]
theorem encF_len(x:FileM × Value × Value):(encF x).length=3:=rfl
def FRow(w:World)(v:Value)(t:List FileM):Prop:=∃ hs:List (FileM × Value × Value),hs.map (·.1)=t∧Row w v t.length 3 (hs.flatMap encF)∧∀ x∈hs,SRow w x.2.1 x.1.also∧SRow w x.2.2 x.1.lines
theorem FRow.over{w w':World}{v:Value}{t:List FileM}(h:FRow w v t)(hb:Be w w'):FRow w' v t:=by obtain⟨hs,h1,h2,h3⟩:=h;exact⟨hs,h1,h2.over hb,fun x hx=>⟨(h3 x hx).1.over hb,(h3 x hx).2.over hb⟩⟩
theorem frow_nil(w:World):FRow w (.slice none 0 0) []:=⟨[],rfl,row_nil w 3,by simp⟩
structure FAt (w:World) (b o:Nat) (f:FileM) (av lv:Value):Prop where
 c0:w.cell? ⟨b,o,none⟩=some (.string f.name)
 c1:w.cell? ⟨b,o+1,none⟩=some av
 c2:w.cell? ⟨b,o+2,none⟩=some lv
 also:SRow w av f.also
 lines:SRow w lv f.lines
theorem FAt.over{w w':World}{b o:Nat}{f:FileM}{av lv:Value}(h:FAt w b o f av lv)(hb:Be w w')(hlt:b<w.heap.size):FAt w' b o f av lv:=
 ⟨(hb.cell (p:=⟨b,_,none⟩) hlt).trans h.c0,(hb.cell (p:=⟨b,_,none⟩) hlt).trans h.c1,(hb.cell (p:=⟨b,_,none⟩) hlt).trans h.c2,h.also.over hb,h.lines.over hb⟩
theorem FRow.form{w:World}{v:Value}{t:List FileM}(h:FRow w v t):∃ a cap,v=.slice a t.length cap∧t.length≤cap∧cap≤maxLen∧(a=none→cap=0) ∧
  (t.length=0∨∃ b off,a=some ⟨b,off,none⟩∧b<w.heap.size∧∀ i f,t[i]? = some f→∃ av lv,FAt w b (off+i*3) f av lv):=by obtain⟨hs,rfl,h2,h3⟩:=h;obtain⟨a,cap,e1,e2,e3,e4,e5⟩:=h2.form;refine⟨a,cap,e1,e2,e3,e4,e5.imp id ?_⟩;rintro⟨b,off,rfl,hb,hc⟩;refine⟨b,off,rfl,hb,fun i f hf => ?_⟩;rw [List.getElem?_map,Option.map_eq_some_iff] at hf;obtain⟨x,hx,rfl⟩:=hf;have hm:=h3 x (List.mem_of_getElem? hx);exact⟨x.2.1,x.2.2,Row.elem (j:=0) encF_len hc hx rfl,Row.elem (j:=1) encF_len hc hx rfl,Row.elem (j:=2) encF_len hc hx rfl,hm.1,hm.2⟩
end
section
open Go.RowKit
theorem rsame_any(va vb:Value)(s t:List FileM)(w:World)(ha:FRow w va s)(hb:FRow w vb t) :
  Calls Tryz.prog 21 #[va,vb] w fun e w'=>e=.returned (.bool (sameT s t))∧Be w w':=by
 obtain⟨a,ca,rfl,h1,h2,_,hca⟩:=ha.form;obtain⟨b,cb,rfl,h3,h4,_,hcb⟩:=hb.form;unfold maxLen at h2 h4
 by_cases hl:s.length=t.length
 rotate_left
 ·
  have HN:Hid (sameT s t=false):=sameT_f (by rintro rfl;exact hl rfl);go_enter Tryz.func21,Tryz.ntmps21;have hb1:((s.length:Int) != (t.length:Int))=true:=by simp;omega
  clear hl;go_wp2;go_ret;exact⟨rvb HN.o,Below.refl _ _⟩
 have HE:Hid ((∀ j,j<s.length→s[j]? = t[j]?)→s=t):=eq_of_all hl;have HL:=Lh hl;clear ha hb;rw [← hl];rw [← hl] at h3;rw [← hl] at hcb;clear hl;go_enter Tryz.func21,Tryz.ntmps21;go_wp2;go_loopw [5] (fun i wr=>∃ k:Nat,k≤s.length∧i=.int .i64 k∧Hid (∀ j,j<k→s[j]? = t[j]?)∧Be w wr) (fun i _=>s.length - (intOf i).toNat)
 case atStart=>exact⟨0,by omega,rfl,(fun j hj=>by omega),Below.refl _ _⟩
 obtain⟨k,hk,rfl,HK,hbl⟩:=hrel
 by_cases hlt:k<s.length
 rotate_left
 ·
  obtain rfl:k=s.length:=by omega
  have HN:Hid (sameT s t=true):=sameT_t (HE.o HK.o);go_wp2;go_ret;exact⟨rvb HN.o,hbl⟩
 obtain⟨bA,oA,rfl,sA,cA⟩:=hca.resolve_left (by omega);obtain⟨bB,oB,rfl,sB,cB⟩:=hcb.resolve_left (by omega);obtain⟨x,hx⟩:=gol hlt;obtain⟨y,hy⟩:=gol (xs:=t) (i:=k) (by have:=HL.o;omega);obtain⟨av,lv,hat⟩:=cA k x hx;obtain⟨bv,mv,hbt⟩:=cB k y hy;have hat:=hat.over hbl sA;have hbt:=hbt.over hbl sB;have c1:=hat.c0;have c2:=hat.c1;have c3:=hat.c2;have d1:=hbt.c0;have d2:=hbt.c1;have d3:=hbt.c2;have HA:=Lh (And.intro hat.also hat.lines);have HB:=Lh (And.intro hbt.also hbt.lines);have sA':bA<wr.heap.size:=Nat.lt_of_lt_of_le sA hbl.size;have sB':bB<wr.heap.size:=Nat.lt_of_lt_of_le sB hbl.size;have HXY:=Lh (And.intro hx hy);have HNe:Hid (x≠y→sameT s t=false):=fun he=>sameT_f (by rintro rfl;rw [HXY.o.1] at HXY;exact he (by simpa using HXY.o.2));have HEq:Hid (x.name=y.name→x.also=y.also→x.lines=y.lines→∀ j,j<k+1→s[j]? = t[j]?):=by
  intro e1 e2 e3 j hj
  by_cases hjk:j=k
  · subst hjk;rw [HXY.o.1,HXY.o.2];obtain⟨_,_,_⟩:=x;obtain⟨_,_,_⟩:=y;simp at e1 e2 e3;rw [e1,e2,e3]
  exact HK.o j (by omega)
 clear hx hy cA cB hca hcb hat hbt
 by_cases he1:x.name=y.name
 rotate_left
 ·
  have b1:=seq_f he1;have HN:=Lh (HNe.o (fun h=>he1 (by rw [h])));clear he1;go_wp2_with fail;refine wlo 39 fun hcur=>?_;repeat(first|refine lxq ?_|(refine lxl rfl ?_;go_wp2_with (first|(go_at_call 56;(with_reducible refine(rtexts_any av bv _ _ _ (HA.o.1.over hcur) (HB.o.1.over hcur)).mono ?_);rintro e w' ⟨rfl,hb⟩;have hcur:=bvo hcur hb)|(go_at_call 56;(with_reducible refine(rtexts_any lv mv _ _ _ (HA.o.2.over hcur) (HB.o.2.over hcur)).mono ?_);rintro e w' ⟨rfl,hb⟩;have hcur:=bvo hcur hb));refine⟨iov hcur,?_⟩))
  refine lxe ?_;go_wp2;go_ret;exact⟨rvb HN.o,bvo hbl hcur⟩
 have b1:=seq_t he1
 by_cases he2:x.also=y.also
 rotate_left
 ·
  have b2:=sameS_f he2;have HN:=Lh (HNe.o (fun h=>he2 (by rw [h])));clear he1 he2;go_wp2_with fail;refine wlo 39 fun hcur=>?_;repeat(first|refine lxq ?_|(refine lxl rfl ?_;go_wp2_with (first|(go_at_call 56;(with_reducible refine(rtexts_any av bv _ _ _ (HA.o.1.over hcur) (HB.o.1.over hcur)).mono ?_);rintro e w' ⟨rfl,hb⟩;have hcur:=bvo hcur hb)|(go_at_call 56;(with_reducible refine(rtexts_any lv mv _ _ _ (HA.o.2.over hcur) (HB.o.2.over hcur)).mono ?_);rintro e w' ⟨rfl,hb⟩;have hcur:=bvo hcur hb));refine⟨iov hcur,?_⟩))
  refine lxe ?_;go_wp2;go_ret;exact⟨rvb HN.o,bvo hbl hcur⟩
 have b2:=sameS_t he2
 by_cases he3:x.lines=y.lines
 ·
  have b3:=sameS_t he3;have HS:=Lh (HEq.o he1 he2 he3);clear he1 he2 he3;go_wp2_with fail;refine wlo 39 fun hcur=>?_;repeat(first|refine lxq ?_|(refine lxl rfl ?_;go_wp2_with (first|(go_at_call 56;(with_reducible refine(rtexts_any av bv _ _ _ (HA.o.1.over hcur) (HB.o.1.over hcur)).mono ?_);rintro e w' ⟨rfl,hb⟩;have hcur:=bvo hcur hb)|(go_at_call 56;(with_reducible refine(rtexts_any lv mv _ _ _ (HA.o.2.over hcur) (HB.o.2.over hcur)).mono ?_);rintro e w' ⟨rfl,hb⟩;have hcur:=bvo hcur hb));refine⟨iov hcur,?_⟩))
  refine lxe ?_;go_wp2;go_roundw
  case rel=>exact⟨k+1,by omega,by go_num,HS,bvo hbl hcur⟩
  simp [intOf];omega
 have b3:=sameS_f he3;have HN:=Lh (HNe.o (fun h=>he3 (by rw [h])));clear he1 he2 he3;go_wp2_with fail;refine wlo 39 fun hcur=>?_;repeat(first|refine lxq ?_|(refine lxl rfl ?_;go_wp2_with (first|(go_at_call 56;(with_reducible refine(rtexts_any av bv _ _ _ (HA.o.1.over hcur) (HB.o.1.over hcur)).mono ?_);rintro e w' ⟨rfl,hb⟩;have hcur:=bvo hcur hb)|(go_at_call 56;(with_reducible refine(rtexts_any lv mv _ _ _ (HA.o.2.over hcur) (HB.o.2.over hcur)).mono ?_);rintro e w' ⟨rfl,hb⟩;have hcur:=bvo hcur hb));refine⟨iov hcur,?_⟩))
 refine lxe ?_;go_wp2;go_ret;exact⟨rvb HN.o,bvo hbl hcur⟩
end
section
open Go.RowKit
theorem letter_any(n:Nat)(w:World)(hn:n≤2147483647) :
  Calls Tryz.prog 209 #[.int .i32 (n:Int)] w fun e w'=>e=.returned (.bool (letterN n))∧w'=w:=by
 go_enter Tryz.func209,Tryz.ntmps209;cases hb:letterN n with
 | true =>
  rcases letterN_yes hb with rfl|rfl|rfl|⟨h,h'⟩|⟨h,h'⟩
  all_goals
   clear hb
   go_wp2
   go_ret
   exact⟨rfl,rfl⟩
 | false =>
  rcases letterN_no hb with⟨h,e1,e2,e3⟩|rfl|⟨h,h',⟨e1,e2,e3⟩,e4⟩|rfl|⟨h,⟨e1,e2,e3⟩,e4,e5⟩
  all_goals
   clear hb
   go_wp2
   go_ret
   exact⟨rfl,rfl⟩
theorem below_iter(w:World)(s:ByteArray)(k:Nat):Be w (w.iter s k):=(Below.refl _ _).alloc (Nat.le_refl _) _
theorem name_any(s:ByteArray)(w:World)(hs:s.size≤maxLen) :
  Calls Tryz.prog 133 #[.string s] w fun e w'=>e=.returned (.bool (nameOk s))∧Be w w':=by
 unfold maxLen at hs;go_enter Tryz.func133,Tryz.ntmps133;go_wp2;go_loopw [4] (fun _ w'=>∃ k:Nat,k≤s.size∧w'=w.iter s k∧Hid ((s.data.toList.take k).all letterB=true)) (fun _ w'=>s.size - w'.iterPos w.heap.size)
 case atStart=>exact⟨0,by omega,rfl,rfl⟩
 obtain⟨k,hk,rfl,HL⟩:=hrel
 by_cases hp:k<s.size
 ·
  by_cases ha:s[k].toNat<128
  ·
   have hnx:∀ ty,(Instr.next (.pointer (some ⟨w.heap.size,0,none⟩)) true ty).run Tryz.prog (w.iter s k)=_:=fun ty=>run_next_ascii w s k ty hp ha;have hle:s[k].toNat≤2147483647:=(by omega);cases hb:letterB s[k] with
   | true =>
    have HS:=Lh (all_snoc hp HL.o hb);have hl:letterN s[k].toNat=true:=(by rw [letterN_of];exact hb);clear hb;go_wp2_with (go_at_call 209;(with_reducible refine(letter_any _ _ hle).mono ?_);rintro e w2 ⟨rfl,rfl⟩);go_roundw
    case rel=>exact⟨k+1,by omega,rfl,HS⟩
    simp;omega
   | false =>have HN:=Lh (nameOk_bad hp hb);have hl:letterN s[k].toNat=false:=(by rw [letterN_of];exact hb);clear hb;go_wp2_with (go_at_call 209;(with_reducible refine(letter_any _ _ hle).mono ?_);rintro e w2 ⟨rfl,rfl⟩);go_ret;exact⟨rvb HN.o,below_iter _ _ _⟩
  have hnx:∀ ty,(Instr.next (.pointer (some ⟨w.heap.size,0,none⟩)) true ty).run Tryz.prog (w.iter s k)=_:=fun ty=>run_next_any w s k ty hp;have hd:=decode_high s k hp (by omega);have hle:=decode_le s k;have HN:=Lh (nameOk_bad hp (letterB_high (by omega)));have hl:letterN (Utf8.decode s k).1=false:=letterN_high hd.1;generalize (Utf8.decode s k).1=r at *;generalize (Utf8.decode s k).2=q at *;clear hd ha;go_wp2_with (go_at_call 209;(with_reducible refine(letter_any _ _ hle).mono ?_);rintro e w2 ⟨rfl,rfl⟩);go_ret;exact⟨rvb HN.o,below_iter _ _ _⟩
 have hnx:∀ ty,(Instr.next (.pointer (some ⟨w.heap.size,0,none⟩)) true ty).run Tryz.prog (w.iter s k)=_:=fun ty=>run_next_end w s k ty hp;obtain rfl:k=s.size:=by omega
 have hall:s.data.toList.all letterB=true:=by
  have:=HL.o
  rwa [List.take_of_length_le (by simp)] at this
 have HN:=Lh (nameOk_all hall);clear hall
 by_cases h1:1≤s.size
 · obtain⟨g1,g2⟩:=nonempty_tl h1;go_wp2;go_ret;refine⟨rvl ?_,below_iter _ _ _⟩;rw [HN.o];simp [h1];try omega
 have g1:=empty_tl (s:=s) (by omega);go_wp2;go_ret;refine⟨rvl ?_,below_iter _ _ _⟩;rw [HN.o];simp [h1]
end
theorem mark_list:∀ {l:List UInt8} {c:UInt8},7≤l.length→l[0]? = some c→markL l=(markAt c && ((l.drop 1).take 6 == l.take 6))
 | c0 :: c1 :: c2 :: c3 :: c4 :: c5 :: c6 :: r,c,_,h=>by
  simp at h;subst h;simp only [markL,Dsc,Dz,Tsc,Tz];congr 1;rw [Bool.eq_iff_iff];simp only [Bool.and_eq_true,beq_iff_eq,List.cons.injEq,and_true];constructor
  · rintro⟨⟨⟨⟨⟨h1,h2⟩,h3⟩,h4⟩,h5⟩,h6⟩;subst h1 h2 h3 h4 h5 h6;simp
  rintro⟨h1,h2,h3,h4,h5,h6⟩;subst h1 h2 h3 h4 h5 h6;simp
 | [],_,h,_=>by simp at h
 | [_],_,h,_=>by simp at h|[_,_],_,h,_=>by simp at h|[_,_,_],_,h,_=>by simp at h|[_,_,_,_],_,h,_=>by simp at h|[_,_,_,_,_],_,h,_=>by simp at h|[_,_,_,_,_,_],_,h,_=>by simp at h
theorem extract_tl(s:ByteArray)(a b:Nat):(s.extract a b).toList=(s.data.toList.drop a).take (b - a):=by rw [ByteArray.toList_eq,ByteArray.data_extract,Array.toList_extract]
theorem mark_ext{s:ByteArray}(h:7≤s.size):markOk s=(markAt (s[0]'(by omega)) && ((s.extract 1 7).toList == (s.extract 0 6).toList)):=by unfold markOk;rw [extract_tl,extract_tl,mark_list h (get_list s 0 (by omega))];rfl
theorem sign_ix(c:UInt8):decide (Lib.indexByte [60,61,62,124] c<0) = !markAt c:=by
 have h:∀ n,n<256→decide (Lib.indexByte [60,61,62,124] (UInt8.ofNat n)<0) = !markAt (UInt8.ofNat n):=by decide +kernel
 have:=h c.toNat c.toNat_lt
 rwa [UInt8.ofNat_toNat] at this
theorem toUInt8_cast(c:UInt8):((c.toNat:Int)).toNat.toUInt8=c:=by simp
theorem line_ix(s:ByteArray):lineOk s=(decide (Lib.indexByte s.data.toList 10<0) && decide (s.size≤60) && !markOk s):=by
 unfold lineOk;congr 2
 by_cases h:Lib.indexByte s.data.toList 10 = -1
 ·
  have hn:=Lib.indexByte_none h;rw [h];have:s.data.toList.contains 10=false:=by rw [Bool.eq_false_iff];intro hc;simp only [List.contains_iff_mem] at hc;obtain⟨j,hj,he⟩:=List.getElem_of_mem hc;exact hn j (by rw [List.getElem?_eq_getElem hj,he])
  rw [this];rfl
 have hg:=Lib.indexByte_ge s.data.toList 10;obtain⟨o,ho⟩:=Int.eq_ofNat_of_zero_le (show 0≤Lib.indexByte s.data.toList 10 by omega);have hs:=(Lib.indexByte_some ho).1;have:s.data.toList.contains 10=true:=by simp only [List.contains_iff_mem];exact List.mem_of_getElem? hs
 rw [this,ho];simp
theorem fileOk_eq(f:FileM):fileOk f=(nameOk f.name && (decide (f.also.length=0) && (decide (f.lines.length≤60) && f.lines.all lineOk))):=by unfold fileOk;rfl
open Go.RowKit
theorem lite_index(s:ByteArray)(c:Int)(w:World) :
  Calls Tryz.prog 257 #[.string s,.int .u8 c] w fun e w'=>e=.returned (.int .i64 (Lib.indexByte s.data.toList c.toNat.toUInt8))∧w'=w:=by go_enter Tryz.func257,Tryz.ntmps257;go_wp2;rw [run_callFunc_extern Tryz.func299 (by kernel_rfl) (by kernel_rfl) (by kernel_rfl) (e:=Extern.BytealgIndexByte.indexByte) (by kernel_rfl),Lib.run_indexByteString];simp only [Result.andThen];rw [Oper.upon_value];go_wp2;go_ret;exact⟨rfl,rfl⟩
theorem index_any(s:ByteArray)(c:Int)(w:World) :
  Calls Tryz.prog 211 #[.string s,.int .u8 c] w fun e w'=>e=.returned (.int .i64 (Lib.indexByte s.data.toList c.toNat.toUInt8))∧w'=w:=by go_enter Tryz.func211,Tryz.ntmps211;go_wp2_with (go_at_call 257;(with_reducible refine(lite_index _ _ _).mono ?_);rintro e w2 ⟨rfl,rfl⟩);go_ret;exact⟨rfl,rfl⟩
theorem mark_any(s:ByteArray)(w:World)(hs:s.size≤maxLen) :
  Calls Tryz.prog 212 #[.string s] w fun e w'=>e=.returned (.bool (markOk s))∧Be w w':=by
 unfold maxLen at hs
 by_cases h7:s.size<7
 · have HM:=Lh (mark_short h7);go_enter Tryz.func212,Tryz.ntmps212;go_wp2;go_ret;exact⟨rvb HM.o,Below.refl _ _⟩
 have h0:0<s.size:=by omega
 have HE:=Lh (mark_ext (s:=s) (by omega));have hix:∀ w,Calls Tryz.prog 211 #[.string ⟨#[60,61,62,124]⟩,.int .u8 (s[0].toNat:Int)] w fun e w'=>e=.returned (.int .i64 (Lib.indexByte [60,61,62,124] s[0]))∧w'=w:=fun w=>by
  have:=index_any ⟨#[60,61,62,124]⟩ (s[0].toNat:Int) w
  rwa [toUInt8_cast] at this
 have hsg:=sign_ix s[0];generalize Lib.indexByte [60,61,62,124] s[0]=ix at *;cases hm:markAt s[0] with
 | false =>
  rw [hm] at hsg;have hi:ix<0:=by simpa using hsg
  rw [hm,Bool.false_and] at HE;clear hm hsg;go_enter Tryz.func212,Tryz.ntmps212;go_wp2_with (go_at_call 211;(with_reducible refine(hix _).mono ?_);rintro e w2 ⟨rfl,rfl⟩);go_ret;exact⟨rvb HE.o,Below.refl _ _⟩
 | true =>
  rw [hm] at hsg;have hi:¬ ix<0:=by simpa using hsg
  rw [hm,Bool.true_and] at HE;clear hm hsg;go_enter Tryz.func212,Tryz.ntmps212;go_wp2_with (go_at_call 211;(with_reducible refine(hix _).mono ?_);rintro e w2 ⟨rfl,rfl⟩);refine wlex (C:=IsOver w2) 6 [] (by kernel_rfl) (by kernel_rfl) (iov (by repeat(first|exact Below.refl _ _|apply Below.drew|apply below_drewN|(refine Below.alloc ?_ (by simp) _)))) ?_;simp only [Tsc,Tz,Dsc,Dz];repeat refine lxq ?_
  refine lxe ?_;go_wp2;go_ret;exact⟨rvb HE.o,(Below.refl _ _).drew⟩
theorem line_any(s:ByteArray)(w:World)(hs:s.size≤maxLen) :
  Calls Tryz.prog 136 #[.string s] w fun e w'=>e=.returned (.bool (lineOk s))∧Be w w':=by
 have HM:=Lh hs;unfold maxLen at hs;have HE:=Lh (line_ix s);have hix:∀ w,Calls Tryz.prog 211 #[.string s,.int .u8 10] w fun e w'=>e=.returned (.int .i64 (Lib.indexByte s.data.toList 10))∧w'=w:=fun w=>index_any s 10 w;generalize Lib.indexByte s.data.toList 10=ix at *
 by_cases h6:s.size≤60
 ·
  by_cases hi:ix<0
  · go_enter Tryz.func136,Tryz.ntmps136;go_wp2_with (first|(go_at_call 211;(with_reducible refine(hix _).mono ?_);rintro e w2 ⟨rfl,rfl⟩)|(go_at_call 212;(with_reducible refine(mark_any _ _ HM.o).mono ?_);rintro e w2 ⟨rfl,hb⟩));go_ret;refine⟨rvl ?_,hb⟩;rw [HE.o];simp [hi,h6]
  have HI:=Lh (show decide (ix<0)=false by simpa using hi);go_enter Tryz.func136,Tryz.ntmps136;go_wp2_with (first|(go_at_call 211;(with_reducible refine(hix _).mono ?_);rintro e w2 ⟨rfl,rfl⟩));go_ret;refine⟨rvl ?_,Below.refl _ _⟩;rw [HE.o,HI.o];rfl
 go_enter Tryz.func136,Tryz.ntmps136;go_wp2;go_ret;refine⟨rvl ?_,Below.refl _ _⟩;rw [HE.o];simp [h6]
end Go.Proofs.YtjccmcgglfncdaaGreatDoor
