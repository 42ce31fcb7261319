/- What is proved: MergeTurns, for every input; of the listed tables the walk needs the powers of ten. -/
import Derived.Test.YtjccmcgglfncdaaGreatDoorUWordB
set_option linter.unusedVariables false
set_option linter.unusedSimpArgs false
set_option maxRecDepth 100000
set_option maxHeartbeats 40000000
namespace Go.Proofs.YtjccmcgglfncdaaGreatDoor
open Go Go.RowKit
theorem find1_any(nm n:ByteArray)(av lv:Value)(g:Nat)(w:World)(hg:w.cell? ⟨g,0,none⟩=some (.string n))(hlt:g<w.heap.size) :
  Calls Tryz.prog 84 #[.agg #[.string nm,av,lv],.pointer (some ⟨g,0,none⟩)] w fun e w'=>e=.returned (.bool (nm.toList == n.toList))∧Be w w':=by go_enter Tryz.func84,Tryz.ntmps84;go_wp2;go_ret;exact⟨rfl,(Below.refl _ _).alloc (Nat.le_refl _) _⟩
theorem indexF_any(v:Value)(t:List FileM)(n:ByteArray)(g:Nat)(w:World)(hv:FRow w v t)(hg:w.cell? ⟨g,0,none⟩=some (.string n))(hgl:g<w.heap.size) :
  Calls Tryz.prog 83 #[v,.func (.func 84) #[] #[.pointer (some ⟨g,0,none⟩)]] w fun e w'=>e=.returned (.int .i64 (findT t n))∧Be w w':=by
 obtain⟨a,cap,rfl,h1,h2,_,hc⟩:=hv.form;unfold maxLen at h2;clear hv;have HG:=Lh hg;clear hg;go_enter Tryz.func83,Tryz.ntmps83;go_wp2;go_loopw [5,8] (fun _ i wr=>∃ k:Nat,k≤t.length∧i=.int .i64 k∧Hid (∀(j:Nat) g,j<k→t[j]? = some g→g.name≠n)∧Be w wr) (fun _ i _=>t.length - (intOf i).toNat)
 case atStart=>exact⟨0,by omega,rfl,(fun j g hj=>by omega),Below.refl _ _⟩
 obtain⟨k,hk,rfl,HK,hbl⟩:=hrel
 by_cases hlt:k<t.length
 rotate_left
 ·
  obtain rfl:k=t.length:=by omega
  have HN:Hid (findT t n = -1):=findT_none fun j g hg=>HK.o j g (List.getElem?_eq_some_iff.1 hg).1 hg;go_wp2;go_ret;exact⟨rvl (congrArg (Value.int .i64) HN.o.symm),hbl⟩
 obtain⟨b,o,rfl,sb,hf⟩:=hc.resolve_left (by omega);obtain⟨f,hx⟩:=gol hlt;obtain⟨av,lv,hat⟩:=hf k f hx;have hat:=hat.over hbl sb;have c0:=hat.c0;have c1:=hat.c1;have c2:=hat.c2;have sb':b<wr.heap.size:=Nat.lt_of_lt_of_le sb hbl.size;have hgw:=Lh ((hbl.cell (p:=⟨g,0,none⟩) hgl).trans HG.o);have hgl':g<wr.heap.size:=Nat.lt_of_lt_of_le hgl hbl.size;have HX:=Lh hx;clear hx hf hat hc
 by_cases he:f.name=n
 · have HN:Hid (findT t n=(k:Int)):=findT_at HK.o HX.o he;have hb1:=seq_t he;clear he;go_wp2_with (go_at_call 84;(with_reducible refine(find1_any _ n _ _ g _ hgw.out hgl').mono ?_);rintro e w2 ⟨rfl,hb2⟩);go_ret;exact⟨rvl (congrArg (Value.int .i64) HN.o.symm),bvo hbl hb2⟩
 have HS:Hid (∀(j:Nat) g,j<k+1→t[j]? = some g→g.name≠n):=by
  intro j g hj hg
  by_cases hjk:j=k
  · subst hjk;rw [HX.o] at hg;cases hg;exact he
  exact HK.o j g (by omega) hg
 have hb1:=seq_f he;clear he;go_wp2_with (go_at_call 84;(with_reducible refine(find1_any _ n _ _ g _ hgw.out hgl').mono ?_);rintro e w2 ⟨rfl,hb2⟩);go_roundw
 case rel=>exact⟨k+1,by omega,by go_num,HS,bvo hbl hb2⟩
 simp [intOf];omega
theorem find_any(v:Value)(t:List FileM)(n:ByteArray)(w:World)(hv:FRow w v t) :
  Calls Tryz.prog 37 #[v,.string n] w fun e w'=>e=.returned (.int .i64 (findT t n))∧Be w w':=by have HV:=Lh (fun o=>hv.over ((Below.refl w.heap.size w).alloc (Nat.le_refl _) o));clear hv;have HA:=Lh (anw w #[.string n] 9);go_enter Tryz.func37,Tryz.ntmps37;go_wp2_with (go_at_call 83;refine(indexF_any _ t n w.heap.size _ (HV.o _) (HA.o.k 0 rfl) (by simp)).mono ?_;rintro e w2 ⟨rfl,hb2⟩);go_ret;exact⟨rfl,bov ((Below.refl _ _).alloc (Nat.le_refl _) _) (by simp) hb2⟩
theorem good1_any(x:ByteArray)(w:World)(hx:x.size≤maxLen) :
  Calls Tryz.prog 135 #[.string x] w fun e w'=>e=.returned (.bool (!lineOk x))∧Be w w':=by go_enter Tryz.func135,Tryz.ntmps135;go_wp2_with (go_at_call 136;(with_reducible refine(line_any _ _ hx).mono ?_);rintro e w2 ⟨rfl,hb2⟩);go_ret;exact⟨rfl,hb2⟩
def BadAt(xs:List ByteArray)(i:Int):Prop:=decide (0≤i) = !xs.all lineOk
def SomeIx(xs:List ByteArray)(w:World)(e:Ending)(w':World):Prop:=∃ i:Int,e=.returned (.int .i64 i)∧BadAt xs i∧Be w w'
theorem indexS_any(v:Value)(xs:List ByteArray)(w:World)(hv:SRow w v xs)(hz:SzS xs) :
  Calls Tryz.prog 210 #[v,.func (.func 135) #[] #[]] w (SomeIx xs w):=by
 obtain⟨a,cap,rfl,h1,h2,_,hc⟩:=hv.form;unfold maxLen at h2;clear hv;have HZ:=Lh hz;clear hz;go_enter Tryz.func210,Tryz.ntmps210;go_wp2;go_loopw [5,8] (fun _ i wr=>∃ k:Nat,k≤xs.length∧i=.int .i64 k∧Hid (∀(j:Nat) x,j<k→xs[j]? = some x→lineOk x=true)∧Be w wr) (fun _ i _=>xs.length - (intOf i).toNat)
 case atStart=>exact⟨0,by omega,rfl,(fun j g hj=>by omega),Below.refl _ _⟩
 obtain⟨k,hk,rfl,HK,hbl⟩:=hrel
 by_cases hlt:k<xs.length
 rotate_left
 ·
  obtain rfl:k=xs.length:=by omega
  have HN:Hid (BadAt xs (-1)):=by
   have:xs.all lineOk=true:=List.all_eq_true.2 fun x hx=>by obtain⟨j,hj,rfl⟩:=List.getElem_of_mem hx;exact HK.o j _ hj (List.getElem?_eq_getElem hj)
   unfold Hid BadAt;rw [this];rfl
  go_wp2;go_ret;exact⟨_,rfl,HN.o,hbl⟩
 obtain⟨b,o,rfl,sb,hf⟩:=hc.resolve_left (by omega);obtain⟨x,hx⟩:=gol hlt;have c0:=(hbl.cell (p:=⟨b,o+k,none⟩) sb).trans (hf k x hx);have sb':b<wr.heap.size:=Nat.lt_of_lt_of_le sb hbl.size;have HX:=Lh hx;have HSx:=Lh (HZ.o.at hx);clear hx hf hc;cases hl:lineOk x with
 | false =>
  have HN:Hid (BadAt xs (k:Int)):=by have:xs.all lineOk=false:=(by rw [List.all_eq_false];exact⟨x,List.mem_of_getElem? HX.o,by simp [hl]⟩);unfold Hid BadAt;rw [this];simp
  go_wp2_with (go_at_call 135;(with_reducible refine(good1_any _ _ HSx.o).mono ?_);rintro e w2 ⟨rfl,hb2⟩);go_ret;exact⟨_,rfl,HN.o,bvo hbl hb2⟩
 | true =>
  have HS:Hid (∀(j:Nat) y,j<k+1→xs[j]? = some y→lineOk y=true):=by
   intro j y hj hy
   by_cases hjk:j=k
   · subst hjk;rw [HX.o] at hy;cases hy;exact hl
   exact HK.o j y (by omega) hy
  go_wp2_with (go_at_call 135;(with_reducible refine(good1_any _ _ HSx.o).mono ?_);rintro e w2 ⟨rfl,hb2⟩);go_roundw
  case rel=>exact⟨k+1,by omega,by go_num,HS,bvo hbl hb2⟩
  simp [intOf];omega
theorem contains_any(v:Value)(xs:List ByteArray)(w:World)(hv:SRow w v xs)(hz:SzS xs) :
  Calls Tryz.prog 134 #[v,.func (.func 135) #[] #[]] w fun e w'=>e=.returned (.bool (!xs.all lineOk))∧Be w w':=by go_enter Tryz.func134,Tryz.ntmps134;go_wp2_with (go_at_call 210;(with_reducible refine(indexS_any _ _ _ hv hz).mono ?_);rintro e w2 ⟨i,rfl,hi,hb2⟩);go_ret;exact⟨rvl (congrArg Value.bool hi),hb2⟩
end Go.Proofs.YtjccmcgglfncdaaGreatDoor
