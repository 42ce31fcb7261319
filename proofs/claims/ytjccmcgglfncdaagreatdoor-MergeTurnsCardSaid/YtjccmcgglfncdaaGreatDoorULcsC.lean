/- What is proved: MergeTurns, for every input; of the listed tables the walk needs the powers of ten. -/
import Derived.Deep.OwnRows
import Derived.Test.YtjccmcgglfncdaaGreatDoorULcsP
import Derived.Test.YtjccmcgglfncdaaGreatDoorUWordB
set_option linter.unusedVariables false
set_option linter.unusedSimpArgs false
set_option maxRecDepth 100000
set_option maxHeartbeats 40000000
namespace Go.Proofs.YtjccmcgglfncdaaGreatDoor
open Go Go.RowKit
section
variable{bo c i m n r:Nat}{g:Nat→Nat}{G:Nat→Nat→Nat}{w:World}
theorem wpList_make_arr{P:Program}{t e:TypeId}{z:Value}{bytes:Nat}{ops:Array Oper}{rest:List Oper}{o:Oper}{a:Act}{Q:Exit→Act→World→Prop}(T:SlZ P t e z bytes)(hgd:o.guard=none)(l c:Operand)(hop:o.op=Op.makeSlice t l c)
  (n:Nat) (C:Int) (hl:a.eval l=.int .i64 C) (hc:a.eval c=.int .i64 C) (hC:C=(n:Int)) (b2:bytes*n≤281474976710656) (b3:n≤maxLen)
  (hK:∀ w',Arr w' w.heap.size (List.replicate n z)→Be w w'→w'.heap.size=w.heap.size+1→wpList P ops Q rest (a.put o.dst (.slice (some ⟨w.heap.size,0,none⟩) n n)) w') :
  wpList P ops Q (o :: rest) a w:=by
 obtain⟨i,h1,h2,h3,h4,h5,h6⟩:=T.out;subst h5;subst hC;refine wpList_make_row w hgd l c t hop e i z h1 h2 h3 h4 h6 .i64 .i64 n hl hc b2 (by unfold maxLen at b3;omega) (hK _ ?_ ((Below.refl _ _).alloc (Nat.le_refl _) _) (by simp));have:=anw w (madeCells #[z] n) e
 rwa [toList_madeCells_one] at this
def natRow(g:Nat→Nat)(m:Nat):List Value:=(List.range (m+1)).map fun c=>.int .i64 (g c:Nat)
theorem natRow_get(h:c≤m):(natRow g m)[c]? = some (.int .i64 (g c:Nat)):=by simp [natRow,List.getElem?_range (show c<m+1 by omega)]
theorem natRow_len(g:Nat→Nat)(m:Nat):(natRow g m).length=m+1:=by simp [natRow]
theorem natRow_zero(m:Nat):natRow (fun _=>0) m=List.replicate (m+1) (.int .i64 0):=by
 apply List.ext_getElem?;intro j
 by_cases h:j≤m
 · rw [natRow_get h,List.getElem?_replicate];simp [show j<m+1 by omega]
 rw [List.getElem?_eq_none (by rw [natRow_len];omega),List.getElem?_eq_none (by simp;omega)]
theorem natRow_set{x:Nat}(_h:c≤m):(natRow g m).set c (.int .i64 (x:Nat))=natRow (fun c'=>if c'=c then x else g c') m:=by
 apply List.ext_getElem?;intro j
 by_cases hj:j≤m
 ·
  rw [natRow_get hj]
  by_cases hc:c=j
  · subst hc;rw [List.getElem?_set_self (by rw [natRow_len];omega)];simp
  rw [List.getElem?_set_ne hc,natRow_get hj,if_neg (fun h=>hc h.symm)]
 rw [List.getElem?_eq_none (by simp [natRow_len];omega),List.getElem?_eq_none (by rw [natRow_len];omega)]
theorem natRow_ext{g':Nat→Nat}(h:∀ c,c≤m→g c=g' c):natRow g m=natRow g' m:=by unfold natRow;refine List.map_congr_left fun c hc => ?_;rw [h c (by simpa [Nat.lt_succ_iff] using hc)]
def outRow(bo m n i:Nat):List Value:=(List.range (n+1)).map fun r=>if r<i then .slice (some ⟨bo+1+r,0,none⟩) (m+1) (m+1) else .slice none 0 0
theorem outRow_len(bo m n i:Nat):(outRow bo m n i).length=n+1:=by simp [outRow]
theorem outRow_get(h:r<i)(hn:r≤n):(outRow bo m n i)[r]? = some (.slice (some ⟨bo+1+r,0,none⟩) (m+1) (m+1)):=by simp [outRow,List.getElem?_range (show r<n+1 by omega),h]
theorem outRow_get'(h:¬ r<i)(hn:r≤n):(outRow bo m n i)[r]? = some (.slice none 0 0):=by simp [outRow,List.getElem?_range (show r<n+1 by omega),h]
theorem outRow_zero(bo m n:Nat):outRow bo m n 0=List.replicate (n+1) (.slice none 0 0):=by
 apply List.ext_getElem?;intro j
 by_cases h:j≤n
 · rw [outRow_get' (by omega) h,List.getElem?_replicate];simp [show j<n+1 by omega]
 rw [List.getElem?_eq_none (by rw [outRow_len];omega),List.getElem?_eq_none (by simp;omega)]
theorem outRow_set(h:i≤n):(outRow bo m n i).set i (.slice (some ⟨bo+1+i,0,none⟩) (m+1) (m+1))=outRow bo m n (i+1):=by
 apply List.ext_getElem?;intro j
 by_cases hj:j≤n
 ·
  by_cases hc:i=j
  · subst hc;rw [List.getElem?_set_self (by rw [outRow_len];omega),outRow_get (by omega) hj]
  rw [List.getElem?_set_ne hc]
  by_cases hlt:j<i
  · rw [outRow_get hlt hj,outRow_get (by omega) hj]
  rw [outRow_get' hlt hj,outRow_get' (by omega) hj]
 rw [List.getElem?_eq_none (by simp [outRow_len];omega),List.getElem?_eq_none (by rw [outRow_len];omega)]
structure TabAt (w:World) (bo n m:Nat) (G:Nat→Nat→Nat):Prop where
 out:Arr w bo (outRow bo m n (n+1))
 rows:∀ r,r≤n→Arr w (bo+1+r) (natRow (G r) m)
theorem TabAt.row(h:TabAt w bo n m G)(hr:r≤n):w.cell? ⟨bo,r,none⟩=some (.slice (some ⟨bo+1+r,0,none⟩) (m+1) (m+1)):=h.out.cell (outRow_get (by omega) hr)
theorem TabAt.cell(h:TabAt w bo n m G)(hr:r≤n)(hc:c≤m):w.cell? ⟨bo+1+r,c,none⟩=some (.int .i64 (G r c:Nat)):=(h.rows r hr).cell (natRow_get hc)
theorem TabAt.free(h:TabAt w bo n m G)(hr:r≤n)(c:Nat):w.frozen? ⟨bo+1+r,c,none⟩=false:=(h.rows r hr).free c
theorem TabAt.lt(h:TabAt w bo n m G)(hr:r≤n):bo+1+r<w.heap.size:=(h.rows r hr).lt
theorem TabAt.ext{G':Nat→Nat→Nat}(h:TabAt w bo n m G)(he:∀ r c,r≤n→c≤m→G r c=G' r c):TabAt w bo n m G':=
 ⟨h.out,fun r hr=>by rw [← natRow_ext (fun c hc=>he r c hr hc)];exact h.rows r hr⟩
theorem TabAt.over{w':World}(h:TabAt w bo n m G)(hb:Be w w'):TabAt w' bo n m G:=⟨h.out.over hb,fun r hr=>(h.rows r hr).over hb⟩
theorem TabAt.set(h:TabAt w bo n m G)(hr:r≤n)(hc:c≤m)(x:Nat) :
  TabAt (w.setCell ⟨bo+1+r,c,none⟩ (.int .i64 (x:Nat))) bo n m (fun r' c'=>if r'=r∧c'=c then x else G r' c'):=by
 refine⟨h.out.set_other (by show bo≠bo+1+r;omega) _,fun r' hr' => ?_⟩
 by_cases he:r'=r
 · subst he;have:=(h.rows r' hr).set c (.int .i64 (x:Nat));rw [natRow_set hc] at this;simpa using this
 have:=(h.rows r' hr').set_other (a:=⟨bo+1+r,c,none⟩) (by show bo+1+r'≠bo+1+r;omega) (.int .i64 (x:Nat));simpa [he] using this
theorem TabAt.drew(h:TabAt w bo n m G):TabAt w.drew bo n m G:=⟨h.out.drew,fun r hr=>(h.rows r hr).drew⟩
end
section
variable{xs ys:List ByteArray}{c r:Nat}
theorem slzInt:SlZ Tryz.prog 160 3 (.int .i64 0) 8:=slZ_of Tryz.underlying160 (by kernel_rfl) rfl
theorem slzRows:SlZ Tryz.prog 234 160 (.slice none 0 0) 24:=slZ_of Tryz.underlying234 (by kernel_rfl) rfl
def TabRes(w:World)(xs ys:List ByteArray)(e:Ending)(w':World):Prop:=∃ bo,e=.returned (.slice (some ⟨bo,0,none⟩) (xs.length+1) (xs.length+1))∧TabAt w' bo xs.length ys.length (lcsAt xs ys)∧w.heap.size≤bo∧Be w w'
def fillG(xs ys:List ByteArray)(p q r c:Nat):Nat:=if p≤r∨(r+1=p∧q≤c) then lcsAt xs ys r c else 0
theorem fillG_start(hr:r≤xs.length)(hc:c≤ys.length):fillG xs ys xs.length (ys.length+1) r c=0:=by
 unfold fillG;split
 · rename_i h;rw [show r=xs.length by omega,lcsAt_end_left]
 rfl
theorem fillG_row{p:Nat}(hc:c≤ys.length):fillG xs ys p (ys.length+1) r c=fillG xs ys p ys.length r c:=by
 unfold fillG
 by_cases h:p≤r
 · simp [h]
 by_cases h2:r+1=p∧ys.length≤c
 · rw [if_neg (by omega),if_pos (.inr h2),show c=ys.length by omega,lcsAt_end_right]
 rw [if_neg (by omega),if_neg (by omega)]
theorem fillG_next{i:Nat}(hc:c≤ys.length):fillG xs ys (i+1) 0 r c=fillG xs ys i (ys.length+1) r c:=by
 unfold fillG
 by_cases h:i≤r
 · rw [if_pos (by omega),if_pos (by omega)]
 rw [if_neg (by omega),if_neg (by omega)]
theorem fillG_set{i j:Nat}:(if r=i∧c=j then lcsAt xs ys i j else fillG xs ys (i+1) (j+1) r c)=fillG xs ys (i+1) j r c:=by
 unfold fillG
 by_cases h:r=i∧c=j
 · obtain⟨rfl,rfl⟩:=h;simp
 rw [if_neg h]
 by_cases h2:i+1≤r∨(r+1=i+1∧j+1≤c)
 · rw [if_pos h2,if_pos (by omega)]
 rw [if_neg h2,if_neg (by omega)]
theorem fillG_in{p q:Nat}(h:p≤r∨(r+1=p∧q≤c)):fillG xs ys p q r c=lcsAt xs ys r c:=by unfold fillG;rw [if_pos h]
attribute [irreducible] fillG
end
theorem table_lcs(va vb:Value)(xs ys:List ByteArray)(w:World)(ha:SRow w va xs)(hb:SRow w vb ys)(la:xs.length≤1000)(lb:ys.length≤1000) :
  Calls Tryz.prog 278 #[va,vb] w (TabRes w xs ys):=by
 obtain⟨a,ca,rfl,h1,h2,_,hca⟩:=ha.form;obtain⟨b,cb,rfl,h3,h4,_,hcb⟩:=hb.form;unfold maxLen at h2 h4;have HCa:=Lh hca;have HCb:=Lh hcb;clear ha hb hca hcb;have hn:((xs.length:Int)+1)=((xs.length+1:Nat):Int):=by omega
 have hm:((ys.length:Int)+1)=((ys.length+1:Nat):Int):=by omega
 have HN:=Lh hn;have HM:=Lh hm;clear hn hm;have q1:24*(xs.length+1)≤281474976710656:=by omega
 have q2:xs.length+1≤maxLen:=by unfold maxLen;omega
 have q3:8*(ys.length+1)≤281474976710656:=by omega
 have q4:ys.length+1≤maxLen:=by unfold maxLen;omega
 go_enter Tryz.func278,Tryz.ntmps278;go_wp2_with (refine wpList_make_arr slzRows rfl _ _ rfl _ _ rfl rfl HN.o q1 q2 ?_;intro w1 hA1 hb1 hs1);have HA1:=Lh hA1;have HS1:=Lh hs1;clear hA1 hs1;go_loopw [6,17] (fun _ i wr=>∃ k:Nat,k≤xs.length+1∧i=.int .i64 k∧Arr wr w.heap.size (outRow w.heap.size ys.length xs.length k)∧Hid (∀ r,r<k→Arr wr (w.heap.size+1+r) (List.replicate (ys.length+1) (.int .i64 0)))∧Hid (wr.heap.size=w.heap.size+1+k)∧Be w wr) (fun _ i _=>xs.length+1 - (intOf i).toNat)
 case atStart=>exact⟨0,by omega,rfl,by rw [outRow_zero];exact HA1.o,(fun r hr=>by omega),HS1.o,hb1⟩
 obtain⟨k,hk,rfl,hA,HR,HZ,hbl⟩:=hrel
 by_cases hlt:k≤xs.length
 ·
  have hcc:=hA.cell (outRow_get' (show ¬ k<k by omega) hlt);have hff:=hA.free k;have hbo:=hA.lt;have HA:=Lh hA;clear hA;go_wp2_with (refine wpList_make_arr slzInt rfl _ _ rfl _ _ rfl rfl HM.o q3 q4 ?_;intro w2 hA2 hb2 hs2;have cc:=(hb2.cell (p:=⟨w.heap.size,k,none⟩) hbo).trans hcc;have ff:=(hb2.frozen (p:=⟨w.heap.size,k,none⟩) hbo).trans hff;have HA2:=Lh hA2;have HS2:=Lh hs2;clear hA2 hs2);go_roundw
  case rel =>
   have hz:=HZ.o;refine⟨k+1,by omega,by go_num,?_,fun r hr => ?_,?_,(bvo hbl hb2).setCell (by simp) _⟩
   · rw [hz,← outRow_set hlt];exact(HA.o.over hb2).set k _
   ·
    by_cases hrk:r<k
    · exact((HR.o r hrk).over hb2).set_other (by show w.heap.size+1+r≠w.heap.size;omega) _
    obtain rfl:r=k:=(by omega);have:=HA2.o;rw [hz] at this;exact this.set_other (by show w.heap.size+1+r≠w.heap.size;omega) _
   have:=HS2.o;show(World.heap _).size=_;simp;omega
  simp [intOf];omega
 obtain rfl:k=xs.length+1:=by omega
 have hT:TabAt wr w.heap.size xs.length ys.length (fillG xs ys xs.length (ys.length+1)):=
  (⟨hA,fun r hr=>by rw [natRow_zero];exact HR.o r (by omega)⟩:TabAt wr w.heap.size xs.length ys.length (fun _ _=>0)).ext fun r c hr hc=>(fillG_start hr hc).symm
 have HT:=Lh hT;clear hA hT;go_wp2;go_loopw [7,8,9,10,30] (fun _ _ _ _ x wr=>∃ k:Nat,k≤xs.length∧x=.int .i64 k∧Hid (TabAt wr w.heap.size xs.length ys.length (fillG xs ys (xs.length - k) (ys.length+1)))∧Be w wr) (fun _ _ _ _ x _=>xs.length - (intOf x).toNat)
 case atStart=>exact⟨0,by omega,rfl,HT,hbl⟩
 obtain⟨k,hk2,rfl,HTp,hblp⟩:=hrel
 by_cases hkn:k<xs.length
 rotate_left
 ·
  obtain rfl:k=xs.length:=by omega
  have HF:Hid (TabAt wr w.heap.size xs.length ys.length (lcsAt xs ys)):=by have:=HTp.o;rw [Nat.sub_self] at this;exact this.ext fun r c _ _=>fillG_in (.inl (Nat.zero_le _))
  go_wp2;go_ret;exact⟨w.heap.size,rfl,HF.o,Nat.le_refl _,hblp⟩
 obtain⟨i,hi⟩:∃ i,xs.length - k=i+1:=⟨xs.length - k - 1,by omega⟩;have ei:((xs.length:Int) - 1 - (k:Int))=(i:Int):=by omega
 have HI:=Lh hi;have HT2:Hid (TabAt wr w.heap.size xs.length ys.length (fillG xs ys (i+1) ys.length)):=by have:=HTp.o;rw [hi] at this;exact this.ext fun r c _ hc=>fillG_row hc
 have HE:=Lh ei;have hin:i<xs.length:=by omega
 clear HTp HT ei hi;go_wp2_with fail;rw [HE.o];obtain⟨wo,rfl⟩:∃ wo:World,wo=wr:=⟨_,rfl⟩;go_loopw [9,10,40] (fun _ _ x wr=>∃ l:Nat,l≤ys.length∧x=.int .i64 l∧Hid (TabAt wr w.heap.size xs.length ys.length (fillG xs ys (i+1) (ys.length - l)))∧Be w wr) (fun _ _ x _=>ys.length - (intOf x).toNat)
 case atStart=>exact⟨0,by omega,rfl,HT2,hblp⟩
 obtain⟨l,hl,rfl,HTl,hblq⟩:=hrel
 by_cases hln:l<ys.length
 rotate_left
 ·
  obtain rfl:l=ys.length:=by omega
  have HF:Hid (TabAt wr w.heap.size xs.length ys.length (fillG xs ys i (ys.length+1))):=by have:=HTl.o;rw [Nat.sub_self] at this;exact this.ext fun r c _ hc=>fillG_next hc
  go_wp2;go_roundw
  case rel =>refine⟨k+1,by omega,by go_num,?_,hblq⟩;show TabAt _ _ _ _ _;rw [show xs.length - (k+1)=i by have:=HI.o;omega];exact HF.o
  simp [intOf] <;> omega
 obtain⟨j,hj⟩:∃ j,ys.length - l=j+1:=⟨ys.length - l - 1,by omega⟩;have ej:((ys.length:Int) - 1 - (l:Int))=(j:Int):=by omega
 have HTq:Hid (TabAt wr w.heap.size xs.length ys.length (fillG xs ys (i+1) (j+1))):=by rw [← hj];exact HTl
 have HJ:=Lh hj;have HEj:=Lh ej;have hjn:j<ys.length:=by omega
 have hq0:=trivial;clear HTl hj;obtain⟨bA,oA,rfl,sA,cA⟩:=HCa.o.resolve_left (by omega);obtain⟨bB,oB,rfl,sB,cB⟩:=HCb.o.resolve_left (by omega);obtain⟨x,hx⟩:=gol (xs:=xs) (i:=i) (by omega);obtain⟨y,hy⟩:=gol (xs:=ys) (i:=j) (by omega);have c1:=(hblq.cell (p:=⟨bA,oA+i,none⟩) sA).trans (cA i x hx);have c2:=(hblq.cell (p:=⟨bB,oB+j,none⟩) sB).trans (cB j y hy);have sA':bA<wr.heap.size:=Nat.lt_of_lt_of_le sA hblq.size;have sB':bB<wr.heap.size:=Nat.lt_of_lt_of_le sB hblq.size;have r1:=HTq.o.row (r:=i+1) (by omega);have r0:=HTq.o.row (r:=i) (by omega);have d1:=HTq.o.cell (r:=i+1) (c:=j) (by omega) (by omega);have d2:=HTq.o.cell (r:=i) (c:=j+1) (by omega) (by omega);have d3:=HTq.o.cell (r:=i+1) (c:=j+1) (by omega) (by omega);have d0:=HTq.o.cell (r:=i) (c:=j) (by omega) (by omega);have df:=HTq.o.free (r:=i) (by omega) j;have l0:=HTq.o.lt (r:=i) (by omega);have l1:=HTq.o.lt (r:=i+1) (by omega);rw [fillG_in (.inl (by omega))] at d1 d3;rw [fillG_in (.inr ⟨rfl,by omega⟩)] at d2;have b1:=lcsAt_le xs ys (i+1) j;have b2:=lcsAt_le xs ys i (j+1);have b3:=lcsAt_le xs ys (i+1) (j+1);have hdg:=lcsAt_diag hx hy;have HEq:Hid (x=y→lcsAt xs ys i j=lcsAt xs ys (i+1) (j+1)+1):=lcsAt_eq hx hy;have HNe:Hid (¬ x=y→lcsAt xs ys i j=max (lcsAt xs ys (i+1) j) (lcsAt xs ys i (j+1))):=lcsAt_ne hx hy;have HSet:Hid (∀ z,z=lcsAt xs ys i j→TabAt (wr.setCell ⟨w.heap.size+1+i,j,none⟩ (.int .i64 (z:Nat))) w.heap.size xs.length ys.length (fillG xs ys (i+1) j)):=fun z hz=>by subst hz;exact(HTq.o.set (r:=i) (c:=j) (by omega) (by omega) _).ext fun r c _ _=>fillG_set
 have hbo:w.heap.size+1+i<wr.heap.size:=l0;have hbo0:w.heap.size<wr.heap.size:=by omega
 clear cA cB hx hy HTq ej hq0;generalize lcsAt xs ys i j=z0 at *;generalize lcsAt xs ys (i+1) j=u at *;generalize lcsAt xs ys i (j+1)=v at *;generalize lcsAt xs ys (i+1) (j+1)=d at *;generalize fillG xs ys (i+1) (j+1) i j=old at *
 by_cases hxy:x=y
 ·
  have hz:=HEq.o hxy;have HZ2:=Lh hz;have hb1:=seq_t hxy;clear hz hxy;go_wp2_with fail;rw [HEj.o];refine wlex (C:=IsOver wr) 9 [] (by kernel_rfl) (by kernel_rfl) (iov (by repeat(first|exact Below.refl _ _|apply Below.drew|apply below_drewN|(refine Below.alloc ?_ (by simp) _)))) ?_;simp only [Tsc,Tz,Dsc,Dz];repeat refine lxq ?_
  refine lxe ?_;go_wp2_with fail;refine wlex (C:=IsOver wr) 16 [] (by kernel_rfl) (by kernel_rfl) (iov (by repeat(first|exact Below.refl _ _|apply Below.drew|apply below_drewN|(refine Below.alloc ?_ (by simp) _)))) ?_;simp only [Tsc,Tz,Dsc,Dz];repeat refine lxq ?_
  refine lxe ?_;go_wp2;go_roundw
  case rel =>have hz:(d+1:Nat)=z0:=(by have:=HZ2.o;omega);have hs:=(HSet.o _ hz).drew.drew;refine⟨l+1,by omega,by go_num,?_,((hblq.setCell (by show w.heap.size≤w.heap.size+1+i;omega) _).drew).drew⟩;show TabAt _ _ _ _ _;rw [show ys.length - (l+1)=j by have:=HJ.o;omega];simpa using hs
  simp [intOf] <;> omega
 have hz:=HNe.o hxy;have HZ2:=Lh hz;have hb1:=seq_f hxy;clear hz hxy;go_wp2_with fail;rw [HEj.o];refine wlex (C:=IsOver wr) 9 [] (by kernel_rfl) (by kernel_rfl) (iov (by repeat(first|exact Below.refl _ _|apply Below.drew|apply below_drewN|(refine Below.alloc ?_ (by simp) _)))) ?_;simp only [Tsc,Tz,Dsc,Dz];repeat refine lxq ?_
 refine lxe ?_;go_wp2_with fail;refine wlex (C:=IsOver wr) 23 [] (by kernel_rfl) (by kernel_rfl) (iov (by repeat(first|exact Below.refl _ _|apply Below.drew|apply below_drewN|(refine Below.alloc ?_ (by simp) _)))) ?_;simp only [Tsc,Tz,Dsc,Dz];repeat refine lxq ?_
 refine lxe ?_;go_wp2;go_roundw
 case rel =>
  have hz:(max u v:Nat)=z0:=by have:=HZ2.o;omega
  have hs:=(HSet.o _ hz).drew.drew;refine⟨l+1,by omega,by go_num,?_,((hblq.setCell (by show w.heap.size≤w.heap.size+1+i;omega) _).drew).drew⟩;show TabAt _ _ _ _ _;rw [show ys.length - (l+1)=j by have:=HJ.o;omega];have e:(if u<v then(v:Int) else(u:Int))=((max u v:Nat):Int):=by split <;> omega
  rw [e];simpa using hs
 simp [intOf] <;> omega
theorem slPair:SlT Tryz.prog 103 169 2 16:=slT_of Tryz.underlying103 (by kernel_rfl) (by decide)
def encP(p:Nat × Nat):List Value:=[.int .i64 p.1,.int .i64 p.2]
def MatchRes(w:World)(xs ys:List ByteArray)(e:Ending)(w':World):Prop:=∃ v B,e=.returned v∧w'.ownsRow B 169 2 v (pairs xs ys).length ((pairs xs ys).flatMap encP)∧w.heap.size≤B∧B≤w'.heap.size∧Be w w'
theorem pairs_start(xs ys:List ByteArray):pairsF xs ys (xs.length+ys.length - 0 - 0) 0 0=pairs xs ys:=by unfold pairs;rfl
theorem match_any(va vb:Value)(xs ys:List ByteArray)(w:World)(ha:SRow w va xs)(hb:SRow w vb ys)(la:xs.length≤1000)(lb:ys.length≤1000) :
  Calls Tryz.prog 220 #[va,vb] w (MatchRes w xs ys):=by
 have HAB:=Lh (And.intro ha hb);obtain⟨a,ca,rfl,h1,h2,_,hca⟩:=ha.form;obtain⟨b,cb,rfl,h3,h4,_,hcb⟩:=hb.form;unfold maxLen at h2 h4;have HCa:=Lh hca;have HCb:=Lh hcb;clear ha hb hca hcb;go_enter Tryz.func220,Tryz.ntmps220;go_wp2_with (go_at_call 278;(with_reducible refine(table_lcs _ _ _ _ _ HAB.o.1 HAB.o.2 la lb).mono ?_);rintro e w1 ⟨bo,rfl,hT,hbo,hb1⟩);have HT:=Lh hT;clear hT;go_loopw [6,7,8] (fun v i j wr=>∃(p q:Nat) (ps:List (Nat × Nat)),p≤xs.length∧q≤ys.length∧i=.int .i64 p∧j=.int .i64 q∧Hid (ps++pairsF xs ys (xs.length+ys.length - p - q) p q=pairs xs ys)∧ps.length≤p∧Hid (wr.ownsRow w1.heap.size 169 2 v ps.length (ps.flatMap encP))∧Be w1 wr) (fun _ i j _=>xs.length+ys.length - (intOf i).toNat - (intOf j).toNat)
 case atStart=>exact⟨0,0,[],by omega,by omega,rfl,rfl,(by rw [pairs_start];rfl),by simp,World.ownsRow_nil _ _ _ _,Below.refl _ _⟩
 obtain⟨p,q,ps,hp,hq,rfl,rfl,HP,hpl,HO,hbl⟩:=hrel
 by_cases hin:p<xs.length∧q<ys.length
 rotate_left
 ·
  have HE:Hid (ps=pairs xs ys):=by
   have:=HP.o
   rwa [pairsF_end hin,List.append_nil] at this
  by_cases hpx:p<xs.length
  · have hqy:¬ q<ys.length:=fun h=>hin ⟨hpx,h⟩;clear hin;go_wp2;go_ret;exact⟨_,w1.heap.size,rfl,by rw [← HE.o];exact HO.o,hb1.size,hbl.size,bvo hb1 hbl⟩
  clear hin;go_wp2;go_ret;exact⟨_,w1.heap.size,rfl,by rw [← HE.o];exact HO.o,hb1.size,hbl.size,bvo hb1 hbl⟩
 obtain⟨hpx,hqy⟩:=hin;obtain⟨f,hf⟩:∃ f,xs.length+ys.length - p - q=f+1:=⟨xs.length+ys.length - p - q - 1,by omega⟩;obtain⟨bA,oA,rfl,sA,cA⟩:=HCa.o.resolve_left (by omega);obtain⟨bB,oB,rfl,sB,cB⟩:=HCb.o.resolve_left (by omega);obtain⟨x,hx⟩:=gol hpx;obtain⟨y,hy⟩:=gol hqy;have hbw:Be w wr:=bvo hb1 hbl;have c1:=(hbw.cell (p:=⟨bA,oA+p,none⟩) sA).trans (cA p x hx);have c2:=(hbw.cell (p:=⟨bB,oB+q,none⟩) sB).trans (cB q y hy);have sA':bA<wr.heap.size:=Nat.lt_of_lt_of_le sA hbw.size;have sB':bB<wr.heap.size:=Nat.lt_of_lt_of_le sB hbw.size;have hTr:=HT.o.over hbl;have r1:=hTr.row (r:=p+1) (by omega);have r0:=hTr.row (r:=p) (by omega);have d1:=hTr.cell (r:=p+1) (c:=q) (by omega) (by omega);have d2:=hTr.cell (r:=p) (c:=q+1) (by omega) (by omega);have l0:=hTr.lt (r:=p) (by omega);have l1:=hTr.lt (r:=p+1) (by omega);have l2:bo<wr.heap.size:=by omega
 have b1:=lcsAt_le xs ys (p+1) q;have b2:=lcsAt_le xs ys p (q+1);have hB:w1.heap.size≤wr.heap.size:=hbl.size;have hN:ps.length+1≤1099511627776:=by omega
 have HEq:Hid (x=y→(ps++[(p,q)])++pairsF xs ys (xs.length+ys.length - (p+1) - (q+1)) (p+1) (q+1)=pairs xs ys):=fun h=>by rw [← HP.o,hf,pairsF_eq hx hy h,List.append_assoc,pairsF_fuel xs ys (f:=xs.length+ys.length - (p+1) - (q+1)) (g:=f) rfl (by omega) (by omega) (by omega)];rfl
 have HLe:Hid (¬ x=y→lcsAt xs ys p (q+1)≤lcsAt xs ys (p+1) q→ps++pairsF xs ys (xs.length+ys.length - (p+1) - q) (p+1) q=pairs xs ys):=fun h hl=>by rw [← HP.o,hf,pairsF_left hx hy h hl,show xs.length+ys.length - (p+1) - q=f by omega]
 have HRi:Hid (¬ x=y→¬ lcsAt xs ys p (q+1)≤lcsAt xs ys (p+1) q→ps++pairsF xs ys (xs.length+ys.length - p - (q+1)) p (q+1)=pairs xs ys):=fun h hl=>by rw [← HP.o,hf,pairsF_right hx hy h hl,show xs.length+ys.length - p - (q+1)=f by omega]
 have HOw:Hid (∀ v' (w':World),w'.ownsRow w1.heap.size 169 2 v' (ps.length+1) (ps.flatMap encP++[.int .i64 p,.int .i64 q])→w'.ownsRow w1.heap.size 169 2 v' (ps++[(p,q)]).length ((ps++[(p,q)]).flatMap encP)):=fun v' w' h=>by rw [List.length_append,List.flatMap_append];simpa [encP] using h
 clear cA cB hx hy hTr hf HP;generalize lcsAt xs ys (p+1) q=u at *;generalize lcsAt xs ys p (q+1)=v at *
 by_cases hxy:x=y
 ·
  have HS:=Lh (HEq.o hxy);have e1:=seq_t hxy;clear hxy;go_wp2_with fail;refine wlex (C:=IsOver wr) 10 [] (by kernel_rfl) (by kernel_rfl) (iov (by repeat(first|exact Below.refl _ _|apply Below.drew|apply below_drewN|(refine Below.alloc ?_ (by simp) _)))) ?_;simp only [Tsc,Tz,Dsc,Dz];repeat refine lxq ?_
  refine lxe ?_;go_wp2_with (at_builtin;refine apD slPair rfl _ _ rfl w1.heap.size _ _ (dad _ _ _) 1 _ _ _ HO.o rfl rfl rfl rfl hN (by decide) hB ?_;intro v' w2 hown2 hg2);go_roundw
  case rel=>exact⟨p+1,q+1,ps++[(p,q)],by omega,by omega,by go_num,by go_num,HS,by simp;omega,HOw.o _ _ hown2,bgr hbl hB HO.o hg2⟩
  simp [intOf];omega
 have e1:=seq_f hxy
 by_cases hle:v≤u
 ·
  have HS:=Lh (HLe.o hxy hle);clear hxy;go_wp2_with fail;refine wlex (C:=IsOver wr) 10 [] (by kernel_rfl) (by kernel_rfl) (iov (by repeat(first|exact Below.refl _ _|apply Below.drew|apply below_drewN|(refine Below.alloc ?_ (by simp) _)))) ?_;simp only [Tsc,Tz,Dsc,Dz];repeat refine lxq ?_
  refine lxe ?_;go_wp2_with fail;refine wlex (C:=IsOver wr) 18 [] (by kernel_rfl) (by kernel_rfl) (iov (by repeat(first|exact Below.refl _ _|apply Below.drew|apply below_drewN|(refine Below.alloc ?_ (by simp) _)))) ?_;simp only [Tsc,Tz,Dsc,Dz];repeat refine lxq ?_
  refine lxe ?_;go_wp2;go_roundw
  case rel=>exact⟨p+1,q,ps,by omega,by omega,by go_num,rfl,HS,by omega,HO,hbl.drew.drew⟩
  simp [intOf];omega
 have HS:=Lh (HRi.o hxy hle);clear hxy;go_wp2_with fail;refine wlex (C:=IsOver wr) 10 [] (by kernel_rfl) (by kernel_rfl) (iov (by repeat(first|exact Below.refl _ _|apply Below.drew|apply below_drewN|(refine Below.alloc ?_ (by simp) _)))) ?_;simp only [Tsc,Tz,Dsc,Dz];repeat refine lxq ?_
 refine lxe ?_;go_wp2_with fail;refine wlex (C:=IsOver wr) 18 [] (by kernel_rfl) (by kernel_rfl) (iov (by repeat(first|exact Below.refl _ _|apply Below.drew|apply below_drewN|(refine Below.alloc ?_ (by simp) _)))) ?_;simp only [Tsc,Tz,Dsc,Dz];repeat refine lxq ?_
 refine lxe ?_;go_wp2;go_roundw
 case rel=>exact⟨p,q+1,ps,by omega,by omega,rfl,by go_num,HS,by omega,HO,hbl.drew.drew⟩
 simp [intOf];omega
end Go.Proofs.YtjccmcgglfncdaaGreatDoor
