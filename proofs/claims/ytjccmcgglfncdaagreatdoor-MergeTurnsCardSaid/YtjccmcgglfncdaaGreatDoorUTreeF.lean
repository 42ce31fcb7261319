/- What is proved: MergeTurns, for every input; of the listed tables the walk needs the powers of ten. -/
import Derived.Test.YtjccmcgglfncdaaGreatDoorUTreeE
set_option linter.unusedVariables false
set_option linter.unusedSimpArgs false
set_option maxRecDepth 100000
set_option maxHeartbeats 40000000
namespace Go.Proofs.YtjccmcgglfncdaaGreatDoor
open Go Go.RowKit
theorem tgood_any(f:FileM)(av lv:Value)(w:World)(ha:SRow w av f.also)(hl:SRow w lv f.lines)(hz:f.name.size≤maxLen∧SzS f.also∧SzS f.lines) :
  Calls Tryz.prog 76 #[.agg #[.string f.name,av,lv]] w fun e w'=>e=.returned (.bool (fileOk f))∧Be w w':=by
 obtain⟨aa,ca,rfl,a1,a2,_,_⟩:=ha.form;obtain⟨la,cl,rfl,l1,l2,_,_⟩:=hl.form;unfold maxLen at a2 l2;have HSz:=Lh hz;have HLs:=Lh hl;have HE:=Lh (fileOk_eq f);have hb0:∀ o,Be w (w.alloc o):=fun o=>(Below.refl _ _).alloc (Nat.le_refl _) o;have HB0:=Lh hb0;have hA:=anw w #[.string f.name,.slice aa f.also.length ca,.slice la f.lines.length cl] 71;have HA1:=Lh (hA.k 1 rfl);have HA2:=Lh (hA.k 2 rfl);have HLt:=Lh hA.lt;clear hz ha hl hb0 hA;cases hn:nameOk f.name with
 | false =>go_enter Tryz.func76,Tryz.ntmps76;go_wp2_with (go_at_call 133;(with_reducible refine(name_any _ _ HSz.o.1).mono ?_);rintro e w1 ⟨rfl,hb1⟩;have c1:=(hb1.cell (p:=⟨w.heap.size,1,none⟩) HLt.o).trans HA1.o;have c2:=(hb1.cell (p:=⟨w.heap.size,2,none⟩) HLt.o).trans HA2.o;have g1:=Nat.lt_of_lt_of_le HLt.o hb1.size);go_ret;refine⟨rvl ?_,bvo (HB0.o _) hb1⟩;rw [HE.o,hn];rfl
 | true =>
  by_cases hal:f.also.length=0
  ·
   have e1:((f.also.length:Int) == 0)=true:=(by simp;exact List.eq_nil_of_length_eq_zero hal);have HAL:=Lh hal;clear hal
   by_cases hll:f.lines.length≤60
   · go_enter Tryz.func76,Tryz.ntmps76;go_wp2_with (first|(go_at_call 133;(with_reducible refine(name_any _ _ HSz.o.1).mono ?_);rintro e w1 ⟨rfl,hb1⟩;have c1:=(hb1.cell (p:=⟨w.heap.size,1,none⟩) HLt.o).trans HA1.o;have c2:=(hb1.cell (p:=⟨w.heap.size,2,none⟩) HLt.o).trans HA2.o;have g1:=Nat.lt_of_lt_of_le HLt.o hb1.size)|(go_at_call 134;refine(contains_any _ _ _ (HLs.o.over (bvo (HB0.o _) hb1)) HSz.o.2.2).mono ?_;rintro e w2 ⟨rfl,hb2⟩));go_ret;refine⟨rvl ?_,bvo (HB0.o _) (bvo hb1 hb2)⟩;rw [HE.o,hn];simp [HAL.o,hll]
   · go_enter Tryz.func76,Tryz.ntmps76;go_wp2_with (go_at_call 133;(with_reducible refine(name_any _ _ HSz.o.1).mono ?_);rintro e w1 ⟨rfl,hb1⟩;have c1:=(hb1.cell (p:=⟨w.heap.size,1,none⟩) HLt.o).trans HA1.o;have c2:=(hb1.cell (p:=⟨w.heap.size,2,none⟩) HLt.o).trans HA2.o;have g1:=Nat.lt_of_lt_of_le HLt.o hb1.size);go_ret;refine⟨rvl ?_,bvo (HB0.o _) hb1⟩;rw [HE.o,hn];simp [HAL.o,hll]
  · have e1:((f.also.length:Int) == 0)=false:=(by simp;intro h;exact hal (by rw [h];rfl));go_enter Tryz.func76,Tryz.ntmps76;go_wp2_with (go_at_call 133;(with_reducible refine(name_any _ _ HSz.o.1).mono ?_);rintro e w1 ⟨rfl,hb1⟩;have c1:=(hb1.cell (p:=⟨w.heap.size,1,none⟩) HLt.o).trans HA1.o;have c2:=(hb1.cell (p:=⟨w.heap.size,2,none⟩) HLt.o).trans HA2.o;have g1:=Nat.lt_of_lt_of_le HLt.o hb1.size);go_ret;refine⟨rvl ?_,bvo (HB0.o _) hb1⟩;rw [HE.o,hn];simp [hal]
theorem good_any(v:Value)(t:List FileM)(w:World)(hv:FRow w v t)(hsz:SzT t) :
  Calls Tryz.prog 34 #[v] w fun e w'=>e=.returned (.bool (treeGood t))∧Be w w':=by
 obtain⟨a,cap,rfl,h1,h2,_,hc⟩:=hv.form;unfold maxLen at h2;clear hv;have HSZ:=Lh hsz;clear hsz;have HAll:Hid ((∀ i,i<t.length→goodAt t i=true)→treeGood t=decide (t.length≤16)):=fun h=>treeGood_all h;go_enter Tryz.func34,Tryz.ntmps34;go_wp2;go_loopw [3,4,7] (fun _ _ i wr=>∃ k:Nat,k≤t.length∧i=.int .i64 k∧Hid (∀ i,i<k→goodAt t i=true)∧Be w wr) (fun _ _ i _=>t.length - (intOf i).toNat)
 case atStart=>exact⟨0,by omega,rfl,(fun j hj=>by omega),Below.refl _ _⟩
 obtain⟨k,hk,rfl,HK,hbl⟩:=hrel
 by_cases hlt:k<t.length
 rotate_left
 ·
  obtain rfl:k=t.length:=by omega
  have HN:=Lh (HAll.o HK.o)
  by_cases h16:t.length≤16
  all_goals
   go_wp2
   go_ret
   refine⟨rvl ?_,hbl⟩
   rw [HN.o]
   first|(simp [h16];omega)|simp [h16]
 obtain⟨b,o,rfl,sb,hf⟩:=hc.resolve_left (by omega);obtain⟨f,hx⟩:=gol hlt;obtain⟨av,lv,hat0⟩:=hf k f hx;have hat:=hat0.over hbl sb;obtain⟨aa,ca,rfl,a1,a2,_,_⟩:=hat0.also.form;obtain⟨la,cl,rfl,l1,l2,_,_⟩:=hat0.lines.form;have c0:=hat.c0;have c1:=hat.c1;have c2:=hat.c2;have HAt:=Lh hat0;unfold maxLen at a2 l2;have sb':b<wr.heap.size:=Nat.lt_of_lt_of_le sb hbl.size;have HX:=Lh hx;have HSz:=Lh (HSZ.o.at hx);have HF:=Lh hf;clear hat hat0 hx hf hc;cases hfo:fileOk f with
 | false =>
  have HN:Hid (treeGood t=false):=treeGood_bad hlt (goodAt_file HX.o hfo);go_wp2_with fail;obtain⟨wa,HWa⟩:∃ wa,Hid (wa=wr.alloc (.cells #[.string f.name,.slice aa f.also.length ca,.slice la f.lines.length cl] 71)):=⟨_,rfl⟩;rw [← HWa.o];have hbw:Be w wa:=by rw [HWa.o];exact hbl.alloc hbl.size _
  have hbr:Be wr wa:=by rw [HWa.o];exact(Below.refl _ _).alloc (Nat.le_refl _) _
  have n0:wa.cell? ⟨wr.heap.size,0,none⟩=some (.string f.name):=by rw [HWa.o];exact(anw wr _ _).k 0 rfl
  have n1:wa.cell? ⟨wr.heap.size,1,none⟩=some (.slice aa f.also.length ca):=by rw [HWa.o];exact(anw wr _ _).k 1 rfl
  have n2:wa.cell? ⟨wr.heap.size,2,none⟩=some (.slice la f.lines.length cl):=by rw [HWa.o];exact(anw wr _ _).k 2 rfl
  have nl:wr.heap.size<wa.heap.size:=by rw [HWa.o];simp
  have sbw:b<wa.heap.size:=by omega
  have HSL:=Lh (And.intro (HAt.o.also.over hbw) (HAt.o.lines.over hbw));refine wlo 18 fun hcur=>?_;repeat(first|refine lxq ?_|(refine lxl rfl ?_;go_wp2_with (first|(go_at_call 76;(with_reducible refine(tgood_any f _ _ _ (HSL.o.1.over hcur) (HSL.o.2.over hcur) HSz.o).mono ?_);rintro e w' ⟨rfl,hb⟩;have hcur:=bvo hcur hb));refine⟨iov hcur,?_⟩))
  refine lxe ?_;go_wp2;go_ret;exact⟨rvb HN.o,bvo hbw hcur⟩
 | true =>
  by_cases h0:k=0
  ·
   have HS:Hid (∀ i,i<k+1→goodAt t i=true):=by
    intro i hi
    by_cases hik:i=k
    · subst hik;rw [h0] at HX ⊢;rw [goodAt_zero HX.o];exact hfo
    omega
   have hk0:¬ 0<k:=(by omega);clear h0;go_wp2_with fail;obtain⟨wa,HWa⟩:∃ wa,Hid (wa=wr.alloc (.cells #[.string f.name,.slice aa f.also.length ca,.slice la f.lines.length cl] 71)):=⟨_,rfl⟩;rw [← HWa.o];have hbw:Be w wa:=(by rw [HWa.o];exact hbl.alloc hbl.size _);have hbr:Be wr wa:=(by rw [HWa.o];exact(Below.refl _ _).alloc (Nat.le_refl _) _);have n0:wa.cell? ⟨wr.heap.size,0,none⟩=some (.string f.name):=(by rw [HWa.o];exact(anw wr _ _).k 0 rfl);have n1:wa.cell? ⟨wr.heap.size,1,none⟩=some (.slice aa f.also.length ca):=(by rw [HWa.o];exact(anw wr _ _).k 1 rfl);have n2:wa.cell? ⟨wr.heap.size,2,none⟩=some (.slice la f.lines.length cl):=(by rw [HWa.o];exact(anw wr _ _).k 2 rfl);have nl:wr.heap.size<wa.heap.size:=(by rw [HWa.o];simp);have sbw:b<wa.heap.size:=(by omega);have HSL:=Lh (And.intro (HAt.o.also.over hbw) (HAt.o.lines.over hbw));refine wlo 18 fun hcur=>?_;(repeat(first|refine lxq ?_|(refine lxl rfl ?_;go_wp2_with (first|(go_at_call 76;(with_reducible refine(tgood_any f _ _ _ (HSL.o.1.over hcur) (HSL.o.2.over hcur) HSz.o).mono ?_);rintro e w' ⟨rfl,hb⟩;have hcur:=bvo hcur hb));refine⟨iov hcur,?_⟩)));refine lxe ?_;go_wp2;go_roundw
   case rel=>exact⟨k+1,by omega,by go_num,HS,bvo hbw hcur⟩
   simp [intOf];omega
  obtain⟨g,hg⟩:=gol (xs:=t) (i:=k - 1) (by omega);obtain⟨_,_,hg0⟩:=HF.o (k - 1) g hg;have HG:=Lh hg;have hk0:0<k:=by omega
  have HAg:=Lh hg0;clear hg0 hg;cases hlt2:Op.bytesLess g.name.toList f.name.toList with
  | false =>have HN:Hid (treeGood t=false):=treeGood_bad hlt (by obtain⟨k',rfl⟩:∃ k',k=k'+1:=⟨k - 1,by omega⟩;rw [goodAt_succ HX.o (by simpa using HG.o)];simp [ltB,hlt2]);clear h0;go_wp2_with fail;obtain⟨wa,HWa⟩:∃ wa,Hid (wa=wr.alloc (.cells #[.string f.name,.slice aa f.also.length ca,.slice la f.lines.length cl] 71)):=⟨_,rfl⟩;rw [← HWa.o];have hbw:Be w wa:=(by rw [HWa.o];exact hbl.alloc hbl.size _);have hbr:Be wr wa:=(by rw [HWa.o];exact(Below.refl _ _).alloc (Nat.le_refl _) _);have n0:wa.cell? ⟨wr.heap.size,0,none⟩=some (.string f.name):=(by rw [HWa.o];exact(anw wr _ _).k 0 rfl);have n1:wa.cell? ⟨wr.heap.size,1,none⟩=some (.slice aa f.also.length ca):=(by rw [HWa.o];exact(anw wr _ _).k 1 rfl);have n2:wa.cell? ⟨wr.heap.size,2,none⟩=some (.slice la f.lines.length cl):=(by rw [HWa.o];exact(anw wr _ _).k 2 rfl);have nl:wr.heap.size<wa.heap.size:=(by rw [HWa.o];simp);have sbw:b<wa.heap.size:=(by omega);have HSL:=Lh (And.intro (HAt.o.also.over hbw) (HAt.o.lines.over hbw));have cg:=(hbw.cell (p:=⟨b,o+(k - 1)*3,none⟩) sb).trans HAg.o.c0;refine wlo 18 fun hcur=>?_;(repeat(first|refine lxq ?_|(refine lxl rfl ?_;go_wp2_with (first|(go_at_call 76;(with_reducible refine(tgood_any f _ _ _ (HSL.o.1.over hcur) (HSL.o.2.over hcur) HSz.o).mono ?_);rintro e w' ⟨rfl,hb⟩;have hcur:=bvo hcur hb));refine⟨iov hcur,?_⟩)));refine lxe ?_;go_wp2;go_ret;exact⟨rvb HN.o,bvo hbw hcur⟩
  | true =>
   have HS:Hid (∀ i,i<k+1→goodAt t i=true):=by
    intro i hi
    by_cases hik:i=k
    · subst hik;obtain⟨k',rfl⟩:∃ k',i=k'+1:=⟨i - 1,by omega⟩;rw [goodAt_succ HX.o (by simpa using HG.o),hfo];simp [ltB,hlt2]
    exact HK.o i (by omega)
   clear h0;go_wp2_with fail;obtain⟨wa,HWa⟩:∃ wa,Hid (wa=wr.alloc (.cells #[.string f.name,.slice aa f.also.length ca,.slice la f.lines.length cl] 71)):=⟨_,rfl⟩;rw [← HWa.o];have hbw:Be w wa:=(by rw [HWa.o];exact hbl.alloc hbl.size _);have hbr:Be wr wa:=(by rw [HWa.o];exact(Below.refl _ _).alloc (Nat.le_refl _) _);have n0:wa.cell? ⟨wr.heap.size,0,none⟩=some (.string f.name):=(by rw [HWa.o];exact(anw wr _ _).k 0 rfl);have n1:wa.cell? ⟨wr.heap.size,1,none⟩=some (.slice aa f.also.length ca):=(by rw [HWa.o];exact(anw wr _ _).k 1 rfl);have n2:wa.cell? ⟨wr.heap.size,2,none⟩=some (.slice la f.lines.length cl):=(by rw [HWa.o];exact(anw wr _ _).k 2 rfl);have nl:wr.heap.size<wa.heap.size:=(by rw [HWa.o];simp);have sbw:b<wa.heap.size:=(by omega);have HSL:=Lh (And.intro (HAt.o.also.over hbw) (HAt.o.lines.over hbw));have cg:=(hbw.cell (p:=⟨b,o+(k - 1)*3,none⟩) sb).trans HAg.o.c0;refine wlo 18 fun hcur=>?_;(repeat(first|refine lxq ?_|(refine lxl rfl ?_;go_wp2_with (first|(go_at_call 76;(with_reducible refine(tgood_any f _ _ _ (HSL.o.1.over hcur) (HSL.o.2.over hcur) HSz.o).mono ?_);rintro e w' ⟨rfl,hb⟩;have hcur:=bvo hcur hb));refine⟨iov hcur,?_⟩)));refine lxe ?_;go_wp2;go_roundw
   case rel=>exact⟨k+1,by omega,by go_num,HS,bvo hbw hcur⟩
   simp [intOf];omega
end Go.Proofs.YtjccmcgglfncdaaGreatDoor
