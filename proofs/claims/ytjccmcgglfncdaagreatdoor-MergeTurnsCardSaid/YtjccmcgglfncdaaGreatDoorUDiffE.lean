/- What is proved: MergeTurns, for every input; of the listed tables the walk needs the powers of ten. -/
import Derived.Test.YtjccmcgglfncdaaGreatDoorULcsC
import Derived.Test.YtjccmcgglfncdaaGreatDoorUTreeF
set_option linter.unusedVariables false
set_option linter.unusedSimpArgs false
set_option maxRecDepth 100000
set_option maxHeartbeats 40000000
namespace Go.Proofs.YtjccmcgglfncdaaGreatDoor
open Go
section
open Go.RowKit
theorem rtgood_any(v:Value)(t:List FileM)(w:World)(hv:FRow w v t)(hsz:SzT t) :
  Calls Tryz.prog 19 #[v] w fun e w'=>e=.returned (.bool (treeGood t))∧Be w w':=by
 obtain⟨a,cap,rfl,h1,h2,_,hc⟩:=hv.form;unfold maxLen at h2;clear hv;have HSZ:=Lh hsz;clear hsz
 by_cases h16:t.length≤16
 rotate_left
 · have HN:=Lh (treeGood_long h16);go_enter Tryz.func19,Tryz.ntmps19;go_wp2;go_ret;exact⟨rvb HN.o,Below.refl _ _⟩
 have HAll:Hid ((∀ i,i<t.length→goodAt t i=true)→treeGood t=true):=fun h=>by rw [treeGood_all h];simpa using h16
 go_enter Tryz.func19,Tryz.ntmps19;go_wp2;go_loopw [3,4] (fun i _ wr=>∃ k:Nat,k≤t.length∧i=.int .i64 k∧Hid (∀ i,i<k→goodAt t i=true)∧Be w wr) (fun i _ _=>t.length - (intOf i).toNat)
 case atStart=>exact⟨0,by omega,rfl,(fun j hj=>by omega),Below.refl _ _⟩
 obtain⟨k,hk,rfl,HK,hbl⟩:=hrel
 by_cases hlt:k<t.length
 rotate_left
 ·
  obtain rfl:k=t.length:=by omega
  have HN:=Lh (HAll.o HK.o);go_wp2;go_ret;exact⟨rvb HN.o,hbl⟩
 obtain⟨b,o,rfl,sb,hf⟩:=hc.resolve_left (by omega);obtain⟨f,hx⟩:=gol hlt;obtain⟨av,lv,hat0⟩:=hf k f hx;have hat:=hat0.over hbl sb;have c0:=hat.c0;have c1:=hat.c1;have c2:=hat.c2;obtain⟨aa,ca,rfl,a1,a2,_,_⟩:=hat0.also.form;obtain⟨la,cl,rfl,l1,l2,_,hlc⟩:=hat0.lines.form;have HAt:=Lh hat0;have HLc:=Lh hlc;clear hlc;unfold maxLen at a2 l2;have sb':b<wr.heap.size:=Nat.lt_of_lt_of_le sb hbl.size;have HX:=Lh hx;have HSz:=Lh (HSZ.o.at hx);have HBad:Hid (fileOk f=false→treeGood t=false):=fun h=>treeGood_bad hlt (goodAt_file hx h);obtain⟨p,HP⟩:∃ p,Hid (p=fileOk f):=⟨_,rfl⟩;clear hat0 hat;cases hn:nameOk f.name with
 | false =>
  clear hx hf hc;have HN:=Lh (HBad.o (fileOk_name hn))
  skip
  go_wp2_with fail;refine wlo 43 fun hcur=>?_;repeat(first|refine lxq ?_|(refine lxl rfl ?_;go_wp2_with (first|(go_at_call 54;(with_reducible refine(rname_any _ _ HSz.o.1).mono ?_);rintro e w' ⟨rfl,hb⟩;have hcur:=bvo hcur hb));refine⟨iov hcur,?_⟩))
  refine lxe ?_;go_wp2;go_ret;exact⟨rvb HN.o,bvo hbl hcur⟩
 | true =>
  have hfirst:k=0∨∃ g,t[k - 1]? = some g∧wr.cell? ⟨b,o+(k - 1)*3,none⟩=some (.string g.name)∧0<k:=by
   by_cases h0:k=0
   · exact .inl h0
   obtain⟨g,hg⟩:=gol (xs:=t) (i:=k - 1) (by omega);obtain⟨_,_,hg0⟩:=hf (k - 1) g hg;exact .inr ⟨g,hg,(hg0.over hbl sb).c0,by omega⟩
  have HF:=Lh hfirst;clear hfirst hx hf hc
  by_cases h0:k=0
  ·
   have HG:Hid (fileOk f=true→goodAt t k=true):=fun h=>by subst h0;rw [goodAt_zero HX.o];exact h
   have hk0:¬ 0<k:=(by omega);clear h0 HF
   by_cases hal:f.also.length=0
   rotate_left
   · have hal2:((f.also.length:Int) != 0)=true:=(by simp;intro h;exact hal (by rw [h];rfl));have HN:=Lh (HBad.o (fileOk_also hal));clear hal;go_wp2_with fail;refine wlo 43 fun hcur=>?_;(repeat(first|refine lxq ?_|(refine lxl rfl ?_;go_wp2_with (first|(go_at_call 54;(with_reducible refine(rname_any _ _ HSz.o.1).mono ?_);rintro e w' ⟨rfl,hb⟩;have hcur:=bvo hcur hb));refine⟨iov hcur,?_⟩)));refine lxe ?_;go_wp2;go_ret;exact⟨rvb HN.o,bvo hbl hcur⟩
   by_cases hll:f.lines.length≤60
   rotate_left
   · have hal2:((f.also.length:Int) != 0)=false:=(by simp;exact List.eq_nil_of_length_eq_zero hal);have HN:=Lh (HBad.o (fileOk_long hll));clear hal;go_wp2_with fail;refine wlo 43 fun hcur=>?_;(repeat(first|refine lxq ?_|(refine lxl rfl ?_;go_wp2_with (first|(go_at_call 54;(with_reducible refine(rname_any _ _ HSz.o.1).mono ?_);rintro e w' ⟨rfl,hb⟩;have hcur:=bvo hcur hb));refine⟨iov hcur,?_⟩)));refine lxe ?_;go_wp2;go_ret;exact⟨rvb HN.o,bvo hbl hcur⟩
   have HFA:Hid ((∀(j:Nat) x,f.lines[j]? = some x→lineOk x=true)→goodAt t k=true):=fun h=>HG.o (fileOk_all hn hal hll h);have hal2:((f.also.length:Int) != 0)=false:=(by simp;exact List.eq_nil_of_length_eq_zero hal);go_wp2_with fail;refine wlo 43 fun hcur=>?_;(repeat(first|refine lxq ?_|(refine lxl rfl ?_;go_wp2_with (first|(go_at_call 54;(with_reducible refine(rname_any _ _ HSz.o.1).mono ?_);rintro e w' ⟨rfl,hb⟩;have hcur:=bvo hcur hb));refine⟨iov hcur,?_⟩)));refine lxe ?_;have hbw:=bvo hbl hcur;go_wp2_with fail;clear hcur hal hal2 c0 c1 c2;obtain⟨wo,rfl⟩:∃ wo:World,wo=w':=⟨_,rfl⟩;go_loopw [4] (fun j w2=>∃ q:Nat,q≤f.lines.length∧j=.int .i64 q∧Hid (∀(j:Nat) x,j<q→f.lines[j]? = some x→lineOk x=true)∧Be w w2) (fun j _=>f.lines.length - (intOf j).toNat)
   case atStart=>exact⟨0,by omega,rfl,(fun j x hj=>by omega),hbw⟩
   obtain⟨q,hq,rfl,HQ,hbl2⟩:=hrel;have c2:=(HAt.o.over hbl2 sb).c2;have sb2:b<wr.heap.size:=Nat.lt_of_lt_of_le sb hbl2.size
   by_cases hqt:q<f.lines.length
   ·
    obtain⟨bl,ol,rfl,sl,hlc⟩:=HLc.o.resolve_left (by omega);obtain⟨x,hx⟩:=gol hqt;have cx:=(hbl2.cell (p:=⟨bl,ol+q,none⟩) sl).trans (hlc q x hx);have HXq:=Lh hx;have HSx:=Lh (HSz.o.2.2.at hx);clear hx hlc;cases hlo:lineOk x with
    | true =>
     have HS:Hid (∀(j:Nat) y,j<q+1→f.lines[j]? = some y→lineOk y=true):=by
      intro j y hj hy
      by_cases hjq:j=q
      · subst hjq;rw [HXq.o] at hy;cases hy;exact hlo
      exact HQ.o j y (by omega) hy
     go_wp2_with (go_at_call 55;(with_reducible refine(rline_any _ _ HSx.o).mono ?_);rintro e w3 ⟨rfl,hb3⟩);go_roundw
     case rel=>exact⟨q+1,by omega,by go_num,HS,bvo hbl2 hb3⟩
     simp [intOf];omega
    | false =>have HN:=Lh (HBad.o (fileOk_line HXq.o hlo));go_wp2_with (go_at_call 55;(with_reducible refine(rline_any _ _ HSx.o).mono ?_);rintro e w3 ⟨rfl,hb3⟩);go_ret;exact⟨rvb HN.o,bvo hbl2 hb3⟩
   obtain rfl:q=f.lines.length:=(by omega);have HS:Hid (∀ i,i<k+1→goodAt t i=true):=by
    intro i hi
    by_cases hik:i=k
    · subst hik;exact HFA.o fun j x hx=>HQ.o j x (List.getElem?_eq_some_iff.1 hx).1 hx
    exact HK.o i (by omega)
   go_wp2;go_roundw
   case rel=>exact⟨k+1,by omega,by go_num,HS,hbl2⟩
   simp [intOf];omega
  obtain⟨g,hg,cg,hk0⟩:=HF.o.resolve_left h0;cases hlt2:Op.bytesLess g.name.toList f.name.toList with
  | false =>have HN:Hid (treeGood t=false):=treeGood_bad hlt (by obtain⟨k',rfl⟩:∃ k',k=k'+1:=⟨k - 1,by omega⟩;rw [goodAt_succ HX.o (by simpa using hg)];simp [ltB,hlt2]);clear hg h0;go_wp2_with fail;refine wlo 43 fun hcur=>?_;(repeat(first|refine lxq ?_|(refine lxl rfl ?_;go_wp2_with (first|(go_at_call 54;(with_reducible refine(rname_any _ _ HSz.o.1).mono ?_);rintro e w' ⟨rfl,hb⟩;have hcur:=bvo hcur hb));refine⟨iov hcur,?_⟩)));refine lxe ?_;go_wp2;go_ret;exact⟨rvb HN.o,bvo hbl hcur⟩
  | true =>
   have HG:Hid (fileOk f=true→goodAt t k=true):=fun h=>by obtain⟨k',rfl⟩:∃ k',k=k'+1:=⟨k - 1,by omega⟩;rw [goodAt_succ HX.o (by simpa using hg),h];simp [ltB,hlt2]
   clear hg h0 HF
   by_cases hal:f.also.length=0
   rotate_left
   · have hal2:((f.also.length:Int) != 0)=true:=(by simp;intro h;exact hal (by rw [h];rfl));have HN:=Lh (HBad.o (fileOk_also hal));clear hal;go_wp2_with fail;refine wlo 43 fun hcur=>?_;(repeat(first|refine lxq ?_|(refine lxl rfl ?_;go_wp2_with (first|(go_at_call 54;(with_reducible refine(rname_any _ _ HSz.o.1).mono ?_);rintro e w' ⟨rfl,hb⟩;have hcur:=bvo hcur hb));refine⟨iov hcur,?_⟩)));refine lxe ?_;go_wp2;go_ret;exact⟨rvb HN.o,bvo hbl hcur⟩
   by_cases hll:f.lines.length≤60
   rotate_left
   · have hal2:((f.also.length:Int) != 0)=false:=(by simp;exact List.eq_nil_of_length_eq_zero hal);have HN:=Lh (HBad.o (fileOk_long hll));clear hal;go_wp2_with fail;refine wlo 43 fun hcur=>?_;(repeat(first|refine lxq ?_|(refine lxl rfl ?_;go_wp2_with (first|(go_at_call 54;(with_reducible refine(rname_any _ _ HSz.o.1).mono ?_);rintro e w' ⟨rfl,hb⟩;have hcur:=bvo hcur hb));refine⟨iov hcur,?_⟩)));refine lxe ?_;go_wp2;go_ret;exact⟨rvb HN.o,bvo hbl hcur⟩
   have HFA:Hid ((∀(j:Nat) x,f.lines[j]? = some x→lineOk x=true)→goodAt t k=true):=fun h=>HG.o (fileOk_all hn hal hll h);have hal2:((f.also.length:Int) != 0)=false:=(by simp;exact List.eq_nil_of_length_eq_zero hal);go_wp2_with fail;refine wlo 43 fun hcur=>?_;(repeat(first|refine lxq ?_|(refine lxl rfl ?_;go_wp2_with (first|(go_at_call 54;(with_reducible refine(rname_any _ _ HSz.o.1).mono ?_);rintro e w' ⟨rfl,hb⟩;have hcur:=bvo hcur hb));refine⟨iov hcur,?_⟩)));refine lxe ?_;have hbw:=bvo hbl hcur;go_wp2_with fail;clear hcur hal hal2 c0 c1 c2;obtain⟨wo,rfl⟩:∃ wo:World,wo=w':=⟨_,rfl⟩;go_loopw [4] (fun j w2=>∃ q:Nat,q≤f.lines.length∧j=.int .i64 q∧Hid (∀(j:Nat) x,j<q→f.lines[j]? = some x→lineOk x=true)∧Be w w2) (fun j _=>f.lines.length - (intOf j).toNat)
   case atStart=>exact⟨0,by omega,rfl,(fun j x hj=>by omega),hbw⟩
   obtain⟨q,hq,rfl,HQ,hbl2⟩:=hrel;have c2:=(HAt.o.over hbl2 sb).c2;have sb2:b<wr.heap.size:=Nat.lt_of_lt_of_le sb hbl2.size
   by_cases hqt:q<f.lines.length
   ·
    obtain⟨bl,ol,rfl,sl,hlc⟩:=HLc.o.resolve_left (by omega);obtain⟨x,hx⟩:=gol hqt;have cx:=(hbl2.cell (p:=⟨bl,ol+q,none⟩) sl).trans (hlc q x hx);have HXq:=Lh hx;have HSx:=Lh (HSz.o.2.2.at hx);clear hx hlc;cases hlo:lineOk x with
    | true =>
     have HS:Hid (∀(j:Nat) y,j<q+1→f.lines[j]? = some y→lineOk y=true):=by
      intro j y hj hy
      by_cases hjq:j=q
      · subst hjq;rw [HXq.o] at hy;cases hy;exact hlo
      exact HQ.o j y (by omega) hy
     go_wp2_with (go_at_call 55;(with_reducible refine(rline_any _ _ HSx.o).mono ?_);rintro e w3 ⟨rfl,hb3⟩);go_roundw
     case rel=>exact⟨q+1,by omega,by go_num,HS,bvo hbl2 hb3⟩
     simp [intOf];omega
    | false =>have HN:=Lh (HBad.o (fileOk_line HXq.o hlo));go_wp2_with (go_at_call 55;(with_reducible refine(rline_any _ _ HSx.o).mono ?_);rintro e w3 ⟨rfl,hb3⟩);go_ret;exact⟨rvb HN.o,bvo hbl2 hb3⟩
   obtain rfl:q=f.lines.length:=(by omega);have HS:Hid (∀ i,i<k+1→goodAt t i=true):=by
    intro i hi
    by_cases hik:i=k
    · subst hik;exact HFA.o fun j x hx=>HQ.o j x (List.getElem?_eq_some_iff.1 hx).1 hx
    exact HK.o i (by omega)
   go_wp2;go_roundw
   case rel=>exact⟨k+1,by omega,by go_num,HS,hbl2⟩
   simp [intOf];omega
end
section
open Go.RowKit
end
section
open Go.RowKit
end
section
open Go.RowKit
end
section
open Go.RowKit
end
open Go.RowKit
variable{x:ByteArray}{f:FileM}{t:List FileM}{j:Nat}
def shortB(x:ByteArray):Bool:=decide (x.size≤200)
def fewFile(f:FileM):Bool:=decide (f.name.size≤200) && (decide (f.also.length≤40) && (decide (f.lines.length≤100) && (f.also.all shortB && f.lines.all shortB)))
def few15(t:List FileM):Bool:=decide (t.length≤40) && t.all fewFile
def fewV(b:Bool):Int:=if b then 1 else 0
theorem few15_sz(h:few15 t=true):SzT t:=by
 unfold few15 at h;simp only [Bool.and_eq_true,decide_eq_true_eq,List.all_eq_true] at h;intro f hf;have h1:=h.2 f hf;unfold fewFile shortB at h1;simp only [Bool.and_eq_true,decide_eq_true_eq,List.all_eq_true] at h1;unfold SzS maxLen;refine⟨by omega,fun x hx => ?_,fun x hx => ?_⟩
 · have:=h1.2.2.2.1 x hx;omega
 have:=h1.2.2.2.2 x hx;omega
theorem few15_long(h:¬ t.length≤40):few15 t=false:=by simp [few15,h]
theorem few15_bad{k:Nat}(hf:t[k]? = some f)(h:fewFile f=false):few15 t=false:=by unfold few15;rw [Bool.and_eq_false_iff];right;rw [List.all_eq_false];exact⟨f,List.mem_of_getElem? hf,by simp [h]⟩
theorem all_of{α:Type}{p:α→Bool}{l:List α}(h:∀(j:Nat) x,j<l.length→l[j]? = some x→p x=true):l.all p=true:=
 List.all_eq_true.2 fun x hx=>by obtain⟨j,hj,rfl⟩:=List.getElem_of_mem hx;exact h j _ hj (List.getElem?_eq_getElem hj)
theorem not_all{α:Type}{p:α→Bool}{l:List α}{x:α}(hx:l[j]? = some x)(h:p x=false):l.all p=false:=by rw [List.all_eq_false];exact⟨x,List.mem_of_getElem? hx,by simp [h]⟩
theorem few15_all(h:t.length≤40)(ha:∀(j:Nat) g,j<t.length→t[j]? = some g→fewFile g=true):few15 t=true:=by unfold few15;rw [all_of ha];simpa using h
theorem fewFile_name(h:¬ f.name.size≤200):fewFile f=false:=by simp [fewFile,h]
theorem fewFile_also(h:¬ f.also.length≤40):fewFile f=false:=by simp [fewFile,h]
theorem fewFile_lines(h:¬ f.lines.length≤100):fewFile f=false:=by simp [fewFile,h]
theorem fewFile_alsoS(hx:f.also[j]? = some x)(h:¬ x.size≤200):fewFile f=false:=by unfold fewFile;rw [not_all hx (by simp [shortB,h])];simp
theorem fewFile_linesS(hx:f.lines[j]? = some x)(h:¬ x.size≤200):fewFile f=false:=by unfold fewFile;rw [not_all (p:=shortB) (l:=f.lines) hx (by simp [shortB,h])];simp
theorem fewFile_all(h1:f.name.size≤200)(h2:f.also.length≤40)(h3:f.lines.length≤100)(h4:∀(j:Nat) x,j<f.also.length→f.also[j]? = some x→shortB x=true)(h5:∀(j:Nat) x,j<f.lines.length→f.lines[j]? = some x→shortB x=true):fewFile f=true:=by unfold fewFile;rw [all_of h4,all_of h5];simp [h1,h2,h3]
attribute [irreducible] few15 fewFile fewV
theorem fewV_f:fewV false=0:=by unfold fewV;rfl
theorem fewV_t:fewV true=1:=by unfold fewV;rfl
def ShortTo(xs:List ByteArray)(k:Nat):Prop:=∀(j:Nat) x,j<k→xs[j]? = some x→shortB x=true
theorem ShortTo.succ{xs:List ByteArray}{k:Nat}(h:ShortTo xs k)(hx:xs[k]? = some x)(hs:x.size≤200):ShortTo xs (k+1):=by
 intro j y hj hy
 by_cases hjk:j=k
 · subst hjk;rw [hx] at hy;cases hy;simp [shortB,hs]
 exact h j y (by omega) hy
theorem few15_any(v:Value)(t:List FileM)(w:World)(hv:FRow w v t) :
  Calls Tryz.prog 9 #[v] w fun e w'=>e=.returned (.int .i64 (fewV (few15 t)))∧Be w w':=by
 obtain⟨a,cap,rfl,h1,h2,_,hc⟩:=hv.form;unfold maxLen at h2;clear hv
 by_cases h40:t.length≤40
 rotate_left
 · have HN:Hid (few15 t=false):=few15_long h40;go_enter Tryz.func9,Tryz.ntmps9;go_wp2;go_ret;exact⟨rvl (congrArg (Value.int .i64) (by rw [HN.o,fewV_f])),Below.refl _ _⟩
 go_enter Tryz.func9,Tryz.ntmps9;go_wp2;go_loopw [3,4,5] (fun i _ _ wr=>∃ k:Nat,k≤t.length∧i=.int .i64 k∧Hid (∀(j:Nat) g,j<k→t[j]? = some g→fewFile g=true)∧Be w wr) (fun i _ _ _=>t.length - (intOf i).toNat)
 case atStart=>exact⟨0,by omega,rfl,(fun j g hj=>by omega),Below.refl _ _⟩
 obtain⟨k,hk,rfl,HK,hbl⟩:=hrel
 by_cases hlt:k<t.length
 rotate_left
 ·
  obtain rfl:k=t.length:=by omega
  have HN:Hid (few15 t=true):=few15_all h40 HK.o;go_wp2;go_ret;exact⟨rvl (congrArg (Value.int .i64) (by rw [HN.o,fewV_t])),hbl⟩
 obtain⟨b,o,rfl,sb,hf⟩:=hc.resolve_left (by omega);obtain⟨f,hx⟩:=gol hlt;obtain⟨av,lv,hat0⟩:=hf k f hx;have hat:=hat0.over hbl sb;have c0:=hat.c0;have c1:=hat.c1;have c2:=hat.c2;obtain⟨aa,ca,rfl,a1,a2,_,hac⟩:=hat0.also.form;obtain⟨la,cl,rfl,l1,l2,_,hlc⟩:=hat0.lines.form;have HAt:=Lh hat0;have HLc:=Lh hlc;have HAc:=Lh hac;unfold maxLen at a2 l2;have sb':b<wr.heap.size:=Nat.lt_of_lt_of_le sb hbl.size;have HX:=Lh hx;have HBad:Hid (fewFile f=false→few15 t=false):=fun h=>few15_bad hx h;clear hac hlc hat hat0 hx hf hc
 by_cases hn:f.name.size≤200
 rotate_left
 · have HN:Hid (few15 t=false):=HBad.o (fewFile_name hn);go_wp2;go_ret;exact⟨rvl (congrArg (Value.int .i64) (by rw [HN.o,fewV_f])),hbl⟩
 by_cases hal:f.also.length≤40
 rotate_left
 · have HN:Hid (few15 t=false):=HBad.o (fewFile_also hal);go_wp2;go_ret;exact⟨rvl (congrArg (Value.int .i64) (by rw [HN.o,fewV_f])),hbl⟩
 by_cases hll:f.lines.length≤100
 rotate_left
 · have HN:Hid (few15 t=false):=HBad.o (fewFile_lines hll);go_wp2;go_ret;exact⟨rvl (congrArg (Value.int .i64) (by rw [HN.o,fewV_f])),hbl⟩
 have HAll:Hid (ShortTo f.also f.also.length→ShortTo f.lines f.lines.length→fewFile f=true):=fewFile_all hn hal hll;go_wp2_with fail;clear c0 c1 c2;obtain⟨wo,rfl⟩:∃ wo:World,wo=wr:=⟨_,rfl⟩;go_loopw [4] (fun j w2=>∃ q:Nat,q≤f.also.length∧j=.int .i64 q∧Hid (ShortTo f.also q)∧Be w w2) (fun j _=>f.also.length - (intOf j).toNat)
 case atStart=>exact⟨0,by omega,rfl,(fun j x hj=>by omega),hbl⟩
 obtain⟨q,hq,rfl,HQ,hbl2⟩:=hrel;have c1:=(HAt.o.over hbl2 sb).c1;have sb2:b<wr.heap.size:=Nat.lt_of_lt_of_le sb hbl2.size
 by_cases hqt:q<f.also.length
 ·
  obtain⟨bl,ol,rfl,sl,hlc⟩:=HAc.o.resolve_left (by omega);obtain⟨x,hx⟩:=gol hqt;have cx:=(hbl2.cell (p:=⟨bl,ol+q,none⟩) sl).trans (hlc q x hx);have sl2:bl<wr.heap.size:=Nat.lt_of_lt_of_le sl hbl2.size;have HXq:=Lh hx;clear hx hlc
  by_cases hs:x.size≤200
  ·
   have HS:Hid (ShortTo f.also (q+1)):=HQ.o.succ HXq.o hs;go_wp2;go_roundw
   case rel=>exact⟨q+1,by omega,by go_num,HS,hbl2⟩
   simp [intOf];omega
  have HN:Hid (few15 t=false):=HBad.o (fewFile_alsoS HXq.o hs);go_wp2;go_ret;exact⟨rvl (congrArg (Value.int .i64) (by rw [HN.o,fewV_f])),hbl2⟩
 obtain rfl:q=f.also.length:=by omega
 go_wp2_with fail;clear c1;obtain⟨wo2,rfl⟩:∃ wo:World,wo=wr:=⟨_,rfl⟩;go_loopw [5] (fun j w2=>∃ q:Nat,q≤f.lines.length∧j=.int .i64 q∧Hid (ShortTo f.lines q)∧Be w w2) (fun j _=>f.lines.length - (intOf j).toNat)
 case atStart=>exact⟨0,by omega,rfl,(fun j x hj=>by omega),hbl2⟩
 obtain⟨q,hq,rfl,HQ2,hbl3⟩:=hrel;have c2:=(HAt.o.over hbl3 sb).c2;have sb3:b<wr.heap.size:=Nat.lt_of_lt_of_le sb hbl3.size
 by_cases hqt:q<f.lines.length
 ·
  obtain⟨bl,ol,rfl,sl,hlc⟩:=HLc.o.resolve_left (by omega);obtain⟨x,hx⟩:=gol hqt;have cx:=(hbl3.cell (p:=⟨bl,ol+q,none⟩) sl).trans (hlc q x hx);have sl2:bl<wr.heap.size:=Nat.lt_of_lt_of_le sl hbl3.size;have HXq:=Lh hx;clear hx hlc
  by_cases hs:x.size≤200
  ·
   have HS:Hid (ShortTo f.lines (q+1)):=HQ2.o.succ HXq.o hs;go_wp2;go_roundw
   case rel=>exact⟨q+1,by omega,by go_num,HS,hbl3⟩
   simp [intOf];omega
  have HN:Hid (few15 t=false):=HBad.o (fewFile_linesS HXq.o hs);go_wp2;go_ret;exact⟨rvl (congrArg (Value.int .i64) (by rw [HN.o,fewV_f])),hbl3⟩
 obtain rfl:q=f.lines.length:=by omega
 have HS:Hid (∀(j:Nat) g,j<k+1→t[j]? = some g→fewFile g=true):=by
  intro j g hj hg
  by_cases hjk:j=k
  · subst hjk;rw [HX.o] at hg;cases hg;exact HAll.o HQ.o HQ2.o
  exact HK.o j g (by omega) hg
 go_wp2;go_roundw
 case rel=>exact⟨k+1,by omega,by go_num,HS,hbl3⟩
 simp [intOf];omega
end Go.Proofs.YtjccmcgglfncdaaGreatDoor
