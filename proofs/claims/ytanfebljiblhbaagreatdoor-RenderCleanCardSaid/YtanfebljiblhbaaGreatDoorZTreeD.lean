/- Contract of bruitref15.Good. -/
import Derived.Test.YtanfebljiblhbaaGreatDoorZWordA
set_option linter.unusedVariables false
set_option linter.unusedSimpArgs false
namespace Go.Proofs.YtanfebljiblhbaaGreatDoor
open Go Go.RowKit

set_option maxHeartbeats 20000000 in
set_option maxRecDepth 100000 in
theorem rtgood_any(v:Value)(t:List FileM)(w:World)(hv:FRow w v t)(hsz:SzT t) :
  Calls Tryz.prog 30 #[v] w fun e w'=>e=.returned (.bool (treeGood t))∧Below w.heap.size w w':=by
 obtain⟨a,cap,rfl,h1,h2,_,hc⟩:=hv.form
 unfold maxLen at h2
 clear hv
 have HSZ:=Lib.hid hsz
 clear hsz
 by_cases h16:t.length≤16
 ·
  have HAll:Hid ((∀ i,i<t.length→goodAt t i=true)→treeGood t=true):=fun h=>by rw [treeGood_all h];simpa using h16
  go_enter Tryz.func30,Tryz.ntmps30
  go_wp2
  go_loopw [3,4] (fun i _ wr=>∃ k:Nat,k≤t.length∧i=.int .i64 k∧Hid (∀ i,i<k→goodAt t i=true)∧Below w.heap.size w wr) (fun i _ _=>t.length - (intOf i).toNat)
  case atStart=>exact⟨0,by omega,rfl,(fun j hj=>by omega),Below.refl _ _⟩
  case round =>
   obtain⟨k,hk,rfl,HK,hbl⟩:=hrel
   by_cases hlt:k<t.length
   ·
    obtain⟨b,o,rfl,sb,hf⟩:=hc.resolve_left (by omega)
    obtain⟨f,hx⟩:=get_of_lt hlt
    obtain⟨av,lv,hat0⟩:=hf k f hx
    have hat:=hat0.over hbl sb
    have c0:=hat.c0
    have c1:=hat.c1
    have c2:=hat.c2
    obtain⟨aa,ca,rfl,a1,a2,_,_⟩:=hat0.also.form
    obtain⟨la,cl,rfl,l1,l2,_,hlc⟩:=hat0.lines.form
    have HAt:=Lib.hid hat0
    have HLc:=Lib.hid hlc
    clear hlc
    unfold maxLen at a2 l2
    have sb':b<wr.heap.size:=Nat.lt_of_lt_of_le sb hbl.size
    have HX:=Lib.hid hx
    have HSz:=Lib.hid (HSZ.out.at hx)
    have HBad:Hid (fileOk f=false→treeGood t=false):=fun h=>treeGood_bad hlt (goodAt_file hx h)
    obtain⟨p,HP⟩:∃ p,Hid (p=fileOk f):=⟨_,rfl⟩
    clear hat0 hat
    cases hn:nameOk f.name with
    | false =>
     clear hx hf hc
     have HN:=Lib.hid (HBad.out (fileOk_name hn))
     skip
     go_wp2_with fail
     have hcur:Below wr.heap.size wr wr.drew:=(Below.refl _ _).drew
     refine wp_region_lex (C:=IsOver wr) 43 [] (by kernel_rfl) (by kernel_rfl) (isOver_of hcur) ?_
     simp only [List.take_succ_cons,List.take_zero,List.drop_succ_cons,List.drop_zero]
     repeat(first|(refine lex_skip rfl rfl ?_;simp only [Act.put,List.setIfInBounds_toArray,List.set_cons_succ,List.set_cons_zero])|(refine lex_one rfl ?_;go_big_quiet_step (fail);refine wpQuiet_nil ?_)|(refine lex_loud rfl ?_;go_wp2_with (first|(go_at_call 28;(with_reducible refine(rname_any _ _ HSz.out.1).mono ?_);rintro e w' ⟨rfl,hb⟩;replace hcur:=below_over hcur hcur.size hb;clear hb));refine⟨isOver_of hcur,?_⟩))
     refine lex_end ?_
     go_wp2_with fail
     go_ret
     exact⟨ret_val (congrArg Value.bool HN.out.symm),below_over hbl hbl.size hcur⟩
    | true =>
     have hfirst:k=0∨∃ g,t[k - 1]? = some g∧wr.cell? ⟨b,o+(k - 1)*3,none⟩=some (.string g.name)∧0<k:=by
      by_cases h0:k=0
      ·
       exact .inl h0
      ·
       obtain⟨g,hg⟩:=get_of_lt (xs:=t) (i:=k - 1) (by omega)
       obtain⟨_,_,hg0⟩:=hf (k - 1) g hg
       exact .inr ⟨g,hg,(hg0.over hbl sb).c0,by omega⟩
     have HF:=Lib.hid hfirst
     clear hfirst hx hf hc
     by_cases h0:k=0
     ·
      have HG:Hid (fileOk f=true→goodAt t k=true):=fun h=>by subst h0;rw [goodAt_zero HX.out];exact h
      have hk0:¬ 0<k:=by omega
      clear h0 HF
      by_cases hal:f.also.length=0
      ·
       by_cases hll:f.lines.length≤60
       ·
        have HFA:Hid ((∀(j:Nat) x,f.lines[j]? = some x→lineOk x=true)→goodAt t k=true):=fun h=>HG.out (fileOk_all hn hal hll h)
        have hal2:((f.also.length:Int) != 0)=false:=by simp;exact List.eq_nil_of_length_eq_zero hal
        go_wp2_with fail
        have hcur:Below wr.heap.size wr wr.drew:=(Below.refl _ _).drew
        refine wp_region_lex (C:=IsOver wr) 43 [] (by kernel_rfl) (by kernel_rfl) (isOver_of hcur) ?_
        simp only [List.take_succ_cons,List.take_zero,List.drop_succ_cons,List.drop_zero]
        repeat(first|(refine lex_skip rfl rfl ?_;simp only [Act.put,List.setIfInBounds_toArray,List.set_cons_succ,List.set_cons_zero])|(refine lex_one rfl ?_;go_big_quiet_step (fail);refine wpQuiet_nil ?_)|(refine lex_loud rfl ?_;go_wp2_with (first|(go_at_call 28;(with_reducible refine(rname_any _ _ HSz.out.1).mono ?_);rintro e w' ⟨rfl,hb⟩;replace hcur:=below_over hcur hcur.size hb;clear hb));refine⟨isOver_of hcur,?_⟩))
        refine lex_end ?_
        have hbw:=below_over hbl hbl.size hcur
        go_wp2_with fail
        clear hcur hal hal2 c0 c1 c2
        obtain⟨wo,rfl⟩:∃ wo:World,wo=w':=⟨_,rfl⟩
        go_loopw [4] (fun j w2=>∃ q:Nat,q≤f.lines.length∧j=.int .i64 q∧Hid (∀(j:Nat) x,j<q→f.lines[j]? = some x→lineOk x=true)∧Below w.heap.size w w2) (fun j _=>f.lines.length - (intOf j).toNat)
        case atStart=>exact⟨0,by omega,rfl,(fun j x hj=>by omega),hbw⟩
        case round =>
         obtain⟨q,hq,rfl,HQ,hbl2⟩:=hrel
         have c2:=(HAt.out.over hbl2 sb).c2
         have sb2:b<wr.heap.size:=Nat.lt_of_lt_of_le sb hbl2.size
         by_cases hqt:q<f.lines.length
         ·
          obtain⟨bl,ol,rfl,sl,hlc⟩:=HLc.out.resolve_left (by omega)
          obtain⟨x,hx⟩:=get_of_lt hqt
          have cx:=(hbl2.cell (p:=⟨bl,ol+q,none⟩) sl).trans (hlc q x hx)
          have HXq:=Lib.hid hx
          have HSx:=Lib.hid (HSz.out.2.2.at hx)
          clear hx hlc
          cases hlo:lineOk x with
          | true =>
           have HS:Hid (∀(j:Nat) y,j<q+1→f.lines[j]? = some y→lineOk y=true):=by
            intro j y hj hy
            by_cases hjq:j=q
            ·
             subst hjq;rw [HXq.out] at hy;cases hy;exact hlo
            ·
             exact HQ.out j y (by omega) hy
           go_wp2_with (go_at_call 61;(with_reducible refine(rline_any _ _ HSx.out).mono ?_);rintro e w3 ⟨rfl,hb3⟩)
           go_roundw
           case rel=>exact⟨q+1,by omega,by go_num,HS,below_over hbl2 hbl2.size hb3⟩
           case measure=>simp [intOf];omega
          | false =>
           have HN:=Lib.hid (HBad.out (fileOk_line HXq.out hlo))
           go_wp2_with (go_at_call 61;(with_reducible refine(rline_any _ _ HSx.out).mono ?_);rintro e w3 ⟨rfl,hb3⟩)
           go_ret
           exact⟨ret_val (congrArg Value.bool HN.out.symm),below_over hbl2 hbl2.size hb3⟩
         ·
          obtain rfl:q=f.lines.length:=by omega
          have HS:Hid (∀ i,i<k+1→goodAt t i=true):=by
           intro i hi
           by_cases hik:i=k
           ·
            subst hik;exact HFA.out fun j x hx=>HQ.out j x (List.getElem?_eq_some_iff.1 hx).1 hx
           ·
            exact HK.out i (by omega)
          go_wp2_with fail
          go_roundw
          case rel=>exact⟨k+1,by omega,by go_num,HS,hbl2⟩
          case measure=>simp [intOf];omega
       ·
        have hal2:((f.also.length:Int) != 0)=false:=by simp;exact List.eq_nil_of_length_eq_zero hal
        have HN:=Lib.hid (HBad.out (fileOk_long hll))
        clear hal
        go_wp2_with fail
        have hcur:Below wr.heap.size wr wr.drew:=(Below.refl _ _).drew
        refine wp_region_lex (C:=IsOver wr) 43 [] (by kernel_rfl) (by kernel_rfl) (isOver_of hcur) ?_
        simp only [List.take_succ_cons,List.take_zero,List.drop_succ_cons,List.drop_zero]
        repeat(first|(refine lex_skip rfl rfl ?_;simp only [Act.put,List.setIfInBounds_toArray,List.set_cons_succ,List.set_cons_zero])|(refine lex_one rfl ?_;go_big_quiet_step (fail);refine wpQuiet_nil ?_)|(refine lex_loud rfl ?_;go_wp2_with (first|(go_at_call 28;(with_reducible refine(rname_any _ _ HSz.out.1).mono ?_);rintro e w' ⟨rfl,hb⟩;replace hcur:=below_over hcur hcur.size hb;clear hb));refine⟨isOver_of hcur,?_⟩))
        refine lex_end ?_
        go_wp2_with fail
        go_ret
        exact⟨ret_val (congrArg Value.bool HN.out.symm),below_over hbl hbl.size hcur⟩
      ·
       have hal2:((f.also.length:Int) != 0)=true:=by simp;intro h;exact hal (by rw [h];rfl)
       have HN:=Lib.hid (HBad.out (fileOk_also hal))
       clear hal
       go_wp2_with fail
       have hcur:Below wr.heap.size wr wr.drew:=(Below.refl _ _).drew
       refine wp_region_lex (C:=IsOver wr) 43 [] (by kernel_rfl) (by kernel_rfl) (isOver_of hcur) ?_
       simp only [List.take_succ_cons,List.take_zero,List.drop_succ_cons,List.drop_zero]
       repeat(first|(refine lex_skip rfl rfl ?_;simp only [Act.put,List.setIfInBounds_toArray,List.set_cons_succ,List.set_cons_zero])|(refine lex_one rfl ?_;go_big_quiet_step (fail);refine wpQuiet_nil ?_)|(refine lex_loud rfl ?_;go_wp2_with (first|(go_at_call 28;(with_reducible refine(rname_any _ _ HSz.out.1).mono ?_);rintro e w' ⟨rfl,hb⟩;replace hcur:=below_over hcur hcur.size hb;clear hb));refine⟨isOver_of hcur,?_⟩))
       refine lex_end ?_
       go_wp2_with fail
       go_ret
       exact⟨ret_val (congrArg Value.bool HN.out.symm),below_over hbl hbl.size hcur⟩
     ·
      obtain⟨g,hg,cg,hk0⟩:=HF.out.resolve_left h0
      cases hlt2:Op.bytesLess g.name.toList f.name.toList with
      | false =>
       have HN:Hid (treeGood t=false):=treeGood_bad hlt (by
        obtain⟨k',rfl⟩:∃ k',k=k'+1:=⟨k - 1,by omega⟩
        rw [goodAt_succ HX.out (by simpa using hg)];simp [ltB,hlt2])
       clear hg h0
       go_wp2_with fail
       have hcur:Below wr.heap.size wr wr.drew:=(Below.refl _ _).drew
       refine wp_region_lex (C:=IsOver wr) 43 [] (by kernel_rfl) (by kernel_rfl) (isOver_of hcur) ?_
       simp only [List.take_succ_cons,List.take_zero,List.drop_succ_cons,List.drop_zero]
       repeat(first|(refine lex_skip rfl rfl ?_;simp only [Act.put,List.setIfInBounds_toArray,List.set_cons_succ,List.set_cons_zero])|(refine lex_one rfl ?_;go_big_quiet_step (fail);refine wpQuiet_nil ?_)|(refine lex_loud rfl ?_;go_wp2_with (first|(go_at_call 28;(with_reducible refine(rname_any _ _ HSz.out.1).mono ?_);rintro e w' ⟨rfl,hb⟩;replace hcur:=below_over hcur hcur.size hb;clear hb));refine⟨isOver_of hcur,?_⟩))
       refine lex_end ?_
       go_wp2_with fail
       go_ret
       exact⟨ret_val (congrArg Value.bool HN.out.symm),below_over hbl hbl.size hcur⟩
      | true =>
       have HG:Hid (fileOk f=true→goodAt t k=true):=fun h=>by
        obtain⟨k',rfl⟩:∃ k',k=k'+1:=⟨k - 1,by omega⟩
        rw [goodAt_succ HX.out (by simpa using hg),h];simp [ltB,hlt2]
       clear hg h0 HF
       by_cases hal:f.also.length=0
       ·
        by_cases hll:f.lines.length≤60
        ·
         have HFA:Hid ((∀(j:Nat) x,f.lines[j]? = some x→lineOk x=true)→goodAt t k=true):=fun h=>HG.out (fileOk_all hn hal hll h)
         have hal2:((f.also.length:Int) != 0)=false:=by simp;exact List.eq_nil_of_length_eq_zero hal
         go_wp2_with fail
         have hcur:Below wr.heap.size wr wr.drew:=(Below.refl _ _).drew
         refine wp_region_lex (C:=IsOver wr) 43 [] (by kernel_rfl) (by kernel_rfl) (isOver_of hcur) ?_
         simp only [List.take_succ_cons,List.take_zero,List.drop_succ_cons,List.drop_zero]
         repeat(first|(refine lex_skip rfl rfl ?_;simp only [Act.put,List.setIfInBounds_toArray,List.set_cons_succ,List.set_cons_zero])|(refine lex_one rfl ?_;go_big_quiet_step (fail);refine wpQuiet_nil ?_)|(refine lex_loud rfl ?_;go_wp2_with (first|(go_at_call 28;(with_reducible refine(rname_any _ _ HSz.out.1).mono ?_);rintro e w' ⟨rfl,hb⟩;replace hcur:=below_over hcur hcur.size hb;clear hb));refine⟨isOver_of hcur,?_⟩))
         refine lex_end ?_
         have hbw:=below_over hbl hbl.size hcur
         go_wp2_with fail
         clear hcur hal hal2 c0 c1 c2
         obtain⟨wo,rfl⟩:∃ wo:World,wo=w':=⟨_,rfl⟩
         go_loopw [4] (fun j w2=>∃ q:Nat,q≤f.lines.length∧j=.int .i64 q∧Hid (∀(j:Nat) x,j<q→f.lines[j]? = some x→lineOk x=true)∧Below w.heap.size w w2) (fun j _=>f.lines.length - (intOf j).toNat)
         case atStart=>exact⟨0,by omega,rfl,(fun j x hj=>by omega),hbw⟩
         case round =>
          obtain⟨q,hq,rfl,HQ,hbl2⟩:=hrel
          have c2:=(HAt.out.over hbl2 sb).c2
          have sb2:b<wr.heap.size:=Nat.lt_of_lt_of_le sb hbl2.size
          by_cases hqt:q<f.lines.length
          ·
           obtain⟨bl,ol,rfl,sl,hlc⟩:=HLc.out.resolve_left (by omega)
           obtain⟨x,hx⟩:=get_of_lt hqt
           have cx:=(hbl2.cell (p:=⟨bl,ol+q,none⟩) sl).trans (hlc q x hx)
           have HXq:=Lib.hid hx
           have HSx:=Lib.hid (HSz.out.2.2.at hx)
           clear hx hlc
           cases hlo:lineOk x with
           | true =>
            have HS:Hid (∀(j:Nat) y,j<q+1→f.lines[j]? = some y→lineOk y=true):=by
             intro j y hj hy
             by_cases hjq:j=q
             ·
              subst hjq;rw [HXq.out] at hy;cases hy;exact hlo
             ·
              exact HQ.out j y (by omega) hy
            go_wp2_with (go_at_call 61;(with_reducible refine(rline_any _ _ HSx.out).mono ?_);rintro e w3 ⟨rfl,hb3⟩)
            go_roundw
            case rel=>exact⟨q+1,by omega,by go_num,HS,below_over hbl2 hbl2.size hb3⟩
            case measure=>simp [intOf];omega
           | false =>
            have HN:=Lib.hid (HBad.out (fileOk_line HXq.out hlo))
            go_wp2_with (go_at_call 61;(with_reducible refine(rline_any _ _ HSx.out).mono ?_);rintro e w3 ⟨rfl,hb3⟩)
            go_ret
            exact⟨ret_val (congrArg Value.bool HN.out.symm),below_over hbl2 hbl2.size hb3⟩
          ·
           obtain rfl:q=f.lines.length:=by omega
           have HS:Hid (∀ i,i<k+1→goodAt t i=true):=by
            intro i hi
            by_cases hik:i=k
            ·
             subst hik;exact HFA.out fun j x hx=>HQ.out j x (List.getElem?_eq_some_iff.1 hx).1 hx
            ·
             exact HK.out i (by omega)
           go_wp2_with fail
           go_roundw
           case rel=>exact⟨k+1,by omega,by go_num,HS,hbl2⟩
           case measure=>simp [intOf];omega
        ·
         have hal2:((f.also.length:Int) != 0)=false:=by simp;exact List.eq_nil_of_length_eq_zero hal
         have HN:=Lib.hid (HBad.out (fileOk_long hll))
         clear hal
         go_wp2_with fail
         have hcur:Below wr.heap.size wr wr.drew:=(Below.refl _ _).drew
         refine wp_region_lex (C:=IsOver wr) 43 [] (by kernel_rfl) (by kernel_rfl) (isOver_of hcur) ?_
         simp only [List.take_succ_cons,List.take_zero,List.drop_succ_cons,List.drop_zero]
         repeat(first|(refine lex_skip rfl rfl ?_;simp only [Act.put,List.setIfInBounds_toArray,List.set_cons_succ,List.set_cons_zero])|(refine lex_one rfl ?_;go_big_quiet_step (fail);refine wpQuiet_nil ?_)|(refine lex_loud rfl ?_;go_wp2_with (first|(go_at_call 28;(with_reducible refine(rname_any _ _ HSz.out.1).mono ?_);rintro e w' ⟨rfl,hb⟩;replace hcur:=below_over hcur hcur.size hb;clear hb));refine⟨isOver_of hcur,?_⟩))
         refine lex_end ?_
         go_wp2_with fail
         go_ret
         exact⟨ret_val (congrArg Value.bool HN.out.symm),below_over hbl hbl.size hcur⟩
       ·
        have hal2:((f.also.length:Int) != 0)=true:=by simp;intro h;exact hal (by rw [h];rfl)
        have HN:=Lib.hid (HBad.out (fileOk_also hal))
        clear hal
        go_wp2_with fail
        have hcur:Below wr.heap.size wr wr.drew:=(Below.refl _ _).drew
        refine wp_region_lex (C:=IsOver wr) 43 [] (by kernel_rfl) (by kernel_rfl) (isOver_of hcur) ?_
        simp only [List.take_succ_cons,List.take_zero,List.drop_succ_cons,List.drop_zero]
        repeat(first|(refine lex_skip rfl rfl ?_;simp only [Act.put,List.setIfInBounds_toArray,List.set_cons_succ,List.set_cons_zero])|(refine lex_one rfl ?_;go_big_quiet_step (fail);refine wpQuiet_nil ?_)|(refine lex_loud rfl ?_;go_wp2_with (first|(go_at_call 28;(with_reducible refine(rname_any _ _ HSz.out.1).mono ?_);rintro e w' ⟨rfl,hb⟩;replace hcur:=below_over hcur hcur.size hb;clear hb));refine⟨isOver_of hcur,?_⟩))
        refine lex_end ?_
        go_wp2_with fail
        go_ret
        exact⟨ret_val (congrArg Value.bool HN.out.symm),below_over hbl hbl.size hcur⟩
   ·
    obtain rfl:k=t.length:=by omega
    have HN:=Lib.hid (HAll.out HK.out)
    go_wp2_with fail
    go_ret
    exact⟨ret_val (congrArg Value.bool HN.out.symm),hbl⟩
 ·
  have HN:=Lib.hid (treeGood_long h16)
  go_enter Tryz.func30,Tryz.ntmps30
  go_wp2
  go_ret
  exact⟨ret_val (congrArg Value.bool HN.out.symm),Below.refl _ _⟩
end Go.Proofs.YtanfebljiblhbaaGreatDoor
