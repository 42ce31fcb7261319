/- What is proved: MergeTurns, for every input; of the listed tables the walk needs the powers of ten. -/
import Derived.Test.YtjccmcgglfncdaaGreatDoorUSuits
import Derived.Test.YtjccmcgglfncdaaGreatDoorUKeys
set_option linter.unusedVariables false
set_option linter.unusedSimpArgs false
set_option maxRecDepth 100000
set_option maxHeartbeats 40000000
namespace Go.Proofs.YtjccmcgglfncdaaGreatDoor
open Go Go.RowKit
section
variable{ops:List OpM}{deps:List PidM}{i:Nat}{o:OpM}{id:PidM}
def oneP(id:PidM)(ops:List OpM)(i:Nat)(o:OpM):Bool:=opGood id i o && (!laterB id o && ((decide (o.kind=5) || suitsM id ops o) && !(decide (o∈ops.take i) && !makesB o.kind)))
def loopP(id:PidM)(ops:List OpM):Bool:=(List.range ops.length).all fun i=>match ops[i]? with|some o=>oneP id ops i o|none=>false
def goodQ(id:PidM)(deps:List PidM)(ops:List OpM):Bool:=goodPid id && (decide (1≤ops.length) && (decide (ops.length≤200) && (decide (deps=depsM id ops) && loopP id ops)))
def seenF(ops:List OpM)(o:OpM):Option Int:=if o∈ops then some ((ops.count o:Nat):Int) else none
theorem seen_nil:seenF []=fun _=>none:=by funext o;simp [seenF]
theorem seen_get(ops:List OpM)(o:OpM):(seenF ops o).getD 0=((ops.count o:Nat):Int):=by
 unfold seenF;split
 · rfl
 rename_i h;rw [List.count_eq_zero.2 h];rfl
theorem seen_step(ops:List OpM)(o:OpM):updM (seenF ops) o ((seenF ops o).getD 0+1)=seenF (ops++[o]):=by
 funext x;rw [seen_get];unfold updM seenF
 by_cases h:x=o
 · subst h;rw [if_pos rfl,if_pos (by simp),List.count_append];simp
 rw [if_neg h,List.count_append];have:List.count x [o]=0:=List.count_eq_zero.2 (by simpa using h);rw [this];simp [h]
theorem seen_many(ops:List OpM)(o:OpM):decide (1<(ops.count o:Int)+1)=decide (o∈ops):=by
 rw [decide_eq_decide];constructor
 · intro h;exact List.count_pos_iff.1 (by omega)
 intro h;have:=List.count_pos_iff.2 h;omega
theorem loop_no(ho:ops[i]? = some o)(h:oneP id ops i o=false):loopP id ops=false:=by unfold loopP;refine List.all_eq_false.2 ⟨i,List.mem_range.2 (List.getElem?_eq_some_iff.1 ho).1,?_⟩;rw [ho];simp [h]
theorem loop_yes(h:∀ i o,ops[i]? = some o→oneP id ops i o=true):loopP id ops=true:=by unfold loopP;refine List.all_eq_true.2 fun i hi => ?_;obtain⟨o,ho⟩:=gol (List.mem_range.1 hi);rw [ho];exact h i o ho
theorem one_a(h:opGood id i o=false):oneP id ops i o=false:=by unfold oneP;rw [h];rfl
theorem one_b(h:laterB id o=true):oneP id ops i o=false:=by unfold oneP;rw [h];simp
theorem one_c(h5:¬ o.kind=5)(h:suitsM id ops o=false):oneP id ops i o=false:=by unfold oneP;rw [h];simp [h5]
theorem one_d(h:o∈ops.take i)(hm:makesB o.kind=false):oneP id ops i o=false:=by unfold oneP;rw [hm];simp [h]
theorem one_e(ha:opGood id i o=true)(hb:laterB id o=false)(hc:o.kind=5∨suitsM id ops o=true)(hd:¬ o∈ops.take i∨makesB o.kind=true):oneP id ops i o=true:=by
 have e1:(decide (o.kind=5) || suitsM id ops o)=true:=by rcases hc with h|h <;> simp [h]
 have e2:(decide (o∈ops.take i) && !makesB o.kind)=false:=by rcases hd with h|h <;> simp [h]
 unfold oneP;rw [ha,hb,e1,e2];rfl
theorem own_ref(h:opGood id i o=true)(ho:ops[i]? = some o):∀ v∈refsM o,v.pid=id→v.n.toNat<ops.length:=fun v hv e =>
 Nat.lt_trans ((opGood_refs h hv).2 e) (List.getElem?_eq_some_iff.1 ho).1
theorem TMap.ne_arr{P:Program}{k:TypeId}{κ ν:Type}{kenc:κ→Value}{ok:κ→Prop}{venc:ν→Value}{w:World}{b n:Nat}{f:κ→Option ν}(h:TMap P k kenc ok venc w b n f){g:Nat}{cs:List Value}(hA:Arr w g cs):g≠b:=by obtain⟨D,⟨es,clock,h1,_⟩,_⟩:=h;obtain⟨e,h2⟩:=hA;rintro rfl;rw [h1] at h2;cases h2
theorem zero_int(u:World):(zeroValue 3).run Tryz.prog u=.ok (.int .i64 0) u:=by kernel_rfl
theorem int_inj(x y:Int)(h:Value.int .i64 x=.int .i64 y):x=y:=by cases h;rfl
theorem pg_next(h:∀ j o,j<i→ops[j]? = some o→oneP id ops j o=true)(ho:ops[i]? = some o)(hn:oneP id ops i o=true):∀ j o,j<i+1→ops[j]? = some o→oneP id ops j o=true:=by
 intro j o' hj hj'
 by_cases e:j=i
 · subst e;rw [ho] at hj';cases hj';exact hn
 exact h j o' (by omega) hj'
def PgRel(w0:World)(id:PidM)(ops:List OpM)(bm:Nat)(v:Value)(wr:World):Prop:=
 ∃ i:Nat,i≤ops.length∧v=.int .i64 i∧Hid (TMap Tryz.prog 76 opV okOp (Value.int .i64) wr bm i (seenF (ops.take i)))∧Hid (∀ j o,j<i→ops[j]? = some o→oneP id ops j o=true)∧Be w0 wr
theorem goodQ_a(h:goodPid id=false):goodQ id deps ops=false:=by unfold goodQ;rw [h];rfl
theorem goodQ_b(h:¬ 1≤ops.length):goodQ id deps ops=false:=by unfold goodQ;simp;omega
theorem goodQ_c(h:¬ ops.length≤200):goodQ id deps ops=false:=by unfold goodQ;simp;omega
theorem goodQ_d(h:¬ deps=depsM id ops):goodQ id deps ops=false:=by unfold goodQ;simp [h]
theorem goodQ_e(h1:goodPid id=true)(h2:1≤ops.length)(h3:ops.length≤200)(h4:deps=depsM id ops):goodQ id deps ops=loopP id ops:=by unfold goodQ;rw [h1];simp [h2,h3,h4]
attribute [local irreducible] refsM opGood laterB suitsM oneP loopP goodQ goodPid depsM seenF makesB
theorem pgood_any(id:PidM)(dv ov:Value)(deps:List PidM)(ops:List OpM)(w:World)(hd:GRow encPid 2 w dv deps)(hv:GRow encOp 8 w ov ops)(hl:ops.length≤40000)(hz:∀ o∈ops,o.text.size≤maxLen) :
  Calls Tryz.prog 111 #[patV id dv ov] w fun e w'=>e=.returned (.bool (goodQ id deps ops))∧Be w w':=by
 have HV0:=Lh hv;have HD0:=Lh hd;have HZ:=Lh hz;obtain⟨a,cap,rfl,h1,h2,hc⟩:=hv.at encOp_len;obtain⟨ad,capd,rfl,h1d,h2d,_⟩:=hd.at encPid_len;unfold maxLen at h2 h2d;have HC:=Lh hc;have HP:=Lh (anw w #[.int .u8 id.author.toNat,.int .u16 id.seq.toNat,.slice ad deps.length capd,.slice a ops.length cap] 44);have HB:=Lh (bnew (w:=w) (.cells #[.int .u8 id.author.toNat,.int .u16 id.seq.toNat,.slice ad deps.length capd,.slice a ops.length cap] 44));clear hv hd hc hz;unfold patV;go_enter Tryz.func111,Tryz.ntmps111;go_upto_region 1 with fail;generalize w.alloc (.cells #[.int .u8 id.author.toNat,.int .u16 id.seq.toNat,.slice ad deps.length capd,.slice a ops.length cap] 44)=w0 at *;have HV:=Lh (HV0.o.over HB.o);have HD:=Lh (HD0.o.over HB.o);obtain⟨p0,p1,p2,p3,sp⟩:=HP.o.c4;cases hg:goodPid id with
 | false =>
  have HQ:=Lh (goodQ_a (deps:=deps) (ops:=ops) hg);have HG:=Lh hg;clear hg;refine wlo 27 fun hcur=>?_;repeat(first|refine lxq ?_|(refine lxl rfl ?_;go_wp2_with (first|(go_at_call 177;(with_reducible refine(pgoodPid_any id _).mono ?_);rintro e w' ⟨rfl,hb⟩;rw [HG.o];have hcur:=bvo hcur hb));refine⟨iov hcur,?_⟩))
  refine lxe ?_;have HB3:=Lh (bvo HB.o hcur);clear hcur;go_wp2;go_ret;exact⟨rvb HQ.o,HB3.o⟩
 | true =>
  have HG:=Lh hg;clear hg
  by_cases g1:1≤ops.length
  ·
   have d1:decide ((ops.length:Int)<1)=false:=by simp;omega
   by_cases g2:ops.length≤200
   ·
    have d2:decide ((200:Int)<(ops.length:Int))=false:=by simp;omega
    by_cases g3:deps=depsM id ops
    ·
     have HE:Hid (decide (deps=depsM id ops)=true):=(by show _=_;simp [g3]);have HQ:=Lh (goodQ_e HG.o g1 g2 g3);clear g3;refine wlo 27 fun hcur=>?_;(repeat(first|refine lxq ?_|(refine lxl rfl ?_;go_wp2_with (first|(go_at_call 177;(with_reducible refine(pgoodPid_any id _).mono ?_);rintro e w' ⟨rfl,hb⟩;rw [HG.o];have hcur:=bvo hcur hb)|(go_at_call 109;(with_reducible refine(pdeps_any id _ ops _ (HV.o.over hcur) hl).mono ?_);rintro e w' ⟨dv2,rfl,hd2,hb⟩;have HD2:=Lh hd2.row;replace hcur:=bvo hcur hb;clear hb hd2)|(go_at_call 178;(with_reducible refine(equalPid_any _ _ deps (depsM id ops) _ (HD.o.over hcur) HD2.o).mono ?_);rintro e wA ⟨rfl,hb⟩;rw [HE.o];have hcur:=bvo hcur hb));refine⟨iov hcur,?_⟩)));refine lxe ?_;have HA0:=Lh hcur;have hAs:=hcur.size;have hmm:=@run_makeMap Tryz.prog;have HPA:=Lh (HP.o.over hcur);clear hcur p0 p1 p2 p3 sp;obtain⟨p0,p1,p2,p3,sp⟩:=HPA.o.c4;go_wp2_with fail;clear p0 p1 p2 p3 sp;go_loopw [37] (fun v37 wr=>PgRel w0 id ops wA.heap.size v37 wr) (fun v37 _=>ops.length - (intOf v37).toNat)
     case atStart=>exact⟨0,by omega,rfl,(by show TMap _ _ _ _ _ _ _ _ _;rw [List.take_zero,seen_nil];exact TMap.made wA),fun j o hj=>absurd hj (Nat.not_lt_zero _),HA0.o.alloc hAs _⟩
     case round =>
      obtain⟨i,hi,rfl,HM,HK,hbl⟩:=hrel
      by_cases hlt:i<ops.length
      ·
       obtain⟨b,off,rfl,sb,hcb⟩:=HC.o.resolve_left (by omega);obtain⟨o,ho⟩:=gol hlt;have HCo:=Lh (hcb i o ho wr (bvo HB.o hbl));have HOo:=Lh ho;have hzo:o.text.size≤maxLen:=HZ.o o (List.mem_of_getElem? ho);have HZo:=Lh hzo;have HPr:=Lh (HP.o.over hbl);obtain⟨o0,o1,o2,o3,o4,o5,o6,o7,so⟩:=rc8 HCo.o;clear hcb ho hzo;have HOb:Hid (Arr (wr.alloc (.cells (cO o) 76)) wr.heap.size [.int .u8 o.kind.toNat,.int .u8 o.at'.pid.author.toNat,.int .u16 o.at'.pid.seq.toNat,.int .u8 o.at'.n.toNat,.int .u8 o.to.pid.author.toNat,.int .u16 o.to.pid.seq.toNat,.int .u8 o.to.n.toNat,.string o.text]):=anw _ _ _;have HMb:=Lh (HM.o.alloc (.cells (cO o) 76));have HBb:=Lh (bvo hbl (bnew (w:=wr) (.cells (cO o) 76)));go_upto_region 7 with fail;generalize wr.alloc (.cells (cO o) 76)=wo at *;clear so o0 o1 o2 o3 o4 o5 o6 o7;have HPo:=Lh (HP.o.over HBb.o);obtain⟨o0,o1,o2,o3,o4,o5,o6,o7,so⟩:=HOb.o.c8;obtain⟨p0,p1,p2,p3,sp⟩:=HPo.o.c4;go_wp2_with fail;refine(pogood_any id i o _ (by omega) HZo.o).mono ?_;rintro e w1 ⟨rfl,hb1⟩;have HB1:=Lh (bvo HBb.o hb1);have HO1:=Lh (HOb.o.over hb1);have HM1:=Lh (HMb.o.over hb1);have HP1:=Lh (HP.o.over HB1.o);clear o0 o1 o2 o3 o4 o5 o6 o7 so p0 p1 p2 p3 sp hb1;cases hg1:opGood id i o with
       | false =>have HN:=Lh (loop_no HOo.o (one_a hg1));clear hg1;go_wp2;go_ret;exact⟨rvl (congrArg Value.bool (HQ.o.trans HN.o).symm),bvo HB.o HB1.o⟩
       | true =>
        have HG1:=Lh hg1;clear hg1;obtain⟨o0,o1,o2,o3,o4,o5,o6,o7,so⟩:=HO1.o.c8;obtain⟨p0,p1,p2,p3,sp⟩:=HP1.o.c4;go_wp2_with fail;refine(plater_any id o _).mono ?_;rintro e w2 ⟨rfl,hb2⟩;have HB2:=Lh (bvo HB1.o hb2);have HO2:=Lh (HO1.o.over hb2);have HM2:=Lh (HM1.o.over hb2);have HP2:=Lh (HP.o.over HB2.o);clear o0 o1 o2 o3 o4 o5 o6 o7 so p0 p1 p2 p3 sp hb2;cases hl1:laterB id o with
        | true =>have HN:=Lh (loop_no HOo.o (one_b (i:=i) (ops:=ops) hl1));clear hl1;go_wp2;go_ret;exact⟨rvl (congrArg Value.bool (HQ.o.trans HN.o).symm),bvo HB.o HB2.o⟩
        | false =>
         have HL1:=Lh hl1;clear hl1;obtain⟨o0,o1,o2,o3,o4,o5,o6,o7,so⟩:=HO2.o.c8;obtain⟨p0,p1,p2,p3,sp⟩:=HP2.o.c4
         by_cases h5:o.kind.toNat=5
         ·
          have e5:((o.kind.toNat:Int) != 5)=false:=(by simp;omega);have HK5:Hid (o.kind=5∨suitsM id ops o=true):=.inl ((u8_nat _ 5 (by omega)).2 h5);clear h5;go_upto_region 9 with fail;obtain⟨v0,st,wa,e1,g1,s1,lk1,hst⟩:=TMap.entry keysOp lawOp int_inj HM2.o.drew Tryz.underlying244 (zv:=0) zero_int (by unfold maxLen;omega) o HZo.o;obtain⟨wb,e2,m4,g4,s4⟩:=hst wa ((seenF (ops.take i) o).getD 0+1) rfl;have lk0:=TMap.lookup keysOp int_inj HM2.o.drew Tryz.underlying244 (zv:=0) (zero_int _) o HZo.o;have lk4:=TMap.lookup keysOp int_inj m4 Tryz.underlying244 (zv:=0) (zero_int _) o HZo.o;have hup:(updM (seenF (ops.take i)) o ((seenF (ops.take i) o).getD 0+1) o).getD 0=(seenF (ops.take i) o).getD 0+1:=(by simp [updM]);rw [hup] at lk4;rw [seen_step,← tsg HOo.o] at m4;rw [seen_get] at lk0 lk1 lk4 e2;have hcnt:(ops.take i).count o≤i:=Nat.le_trans List.count_le_length (List.length_take_le _ _);have HSM:=Lh (seen_many (ops.take i) o);generalize (ops.take i).count o=c at *;unfold opV at e1 lk0 lk1 lk4;have HMb4:=Lh m4;have HG4:Hid (World.grownBy w2 wb (some wA.heap.size)):=gtr (gtr (grown_drew (World.grownBy.refl w2 _)) g1) g4;have hne:=TMap.ne_arr HM2.o HO2.o;have HO4:=Lh (HO2.o.grown HG4.o (by simp;exact hne));have HB4:=Lh (HB2.o.grown HG4.o HB2.o.size fun k hk=>by cases hk;exact hAs);clear hst hup m4 g1 g4;(try clear p0 p1 p2 p3 sp);go_region;clear lk0 lk1 e1 e2 o0 o1 o2 o3 o4 o5 o6 o7 so;obtain⟨o0,o1,o2,o3,o4,o5,o6,o7,so⟩:=HO4.o.c8
          by_cases hmem:o∈ops.take i
          ·
           have d4:decide (1<(c:Int)+1)=true:=(by rw [HSM.o];simp [hmem]);cases hmk:makesB o.kind with
           | false =>have HN:=Lh (loop_no HOo.o (one_d (id:=id) hmem hmk));have HMK:=Lh hmk;clear hmk hmem;go_wp2_with fail;refine(pmakes_any o.kind _).mono ?_;rintro e w9 ⟨rfl,rfl⟩;rw [HMK.o];go_wp2;go_ret;exact⟨rvl (congrArg Value.bool (HQ.o.trans HN.o).symm),bvo HB.o HB4.o⟩
           | true =>
            have HN:=Lh (one_e HG1.o HL1.o HK5.o (.inr hmk));have HMK:=Lh hmk;clear hmk hmem;go_wp2_with fail;refine(pmakes_any o.kind _).mono ?_;rintro e w9 ⟨rfl,rfl⟩;rw [HMK.o];go_wp2;go_roundw
            case rel=>exact⟨i+1,hlt,by go_num,HMb4,pg_next HK.o HOo.o HN.o,HB4.o⟩
            case measure=>simp [intOf];omega
          ·
           have d4:decide (1<(c:Int)+1)=false:=(by rw [HSM.o];simp [hmem]);have HN:=Lh (one_e HG1.o HL1.o HK5.o (.inl hmem));clear hmem;go_wp2;go_roundw
           case rel=>exact⟨i+1,hlt,by go_num,HMb4,pg_next HK.o HOo.o HN.o,HB4.o⟩
           case measure=>simp [intOf];omega
         ·
          have e5:((o.kind.toNat:Int) != 5)=true:=(by simp;omega);have HK5:Hid (¬ o.kind=5):=fun h=>h5 ((u8_nat _ 5 (by omega)).1 h);clear h5;go_wp2_with fail;refine(psuits_any id _ _ ops o _ (HV.o.over HB2.o) (own_ref HG1.o HOo.o)).mono ?_;rintro e w3 ⟨rfl,hb3⟩;have HB3:=Lh (bvo HB2.o hb3);have HO3:=Lh (HO2.o.over hb3);have HM3:=Lh (HM2.o.over hb3);clear o0 o1 o2 o3 o4 o5 o6 o7 so p0 p1 p2 p3 sp hb3;cases hs1:suitsM id ops o with
          | false =>have HN:=Lh (loop_no HOo.o (one_c (i:=i) HK5.o hs1));clear hs1;go_wp2;go_ret;exact⟨rvl (congrArg Value.bool (HQ.o.trans HN.o).symm),bvo HB.o HB3.o⟩
          | true =>
           have HK5:Hid (o.kind=5∨suitsM id ops o=true):=.inr hs1;clear hs1;go_upto_region 9 with fail;obtain⟨o0,o1,o2,o3,o4,o5,o6,o7,so⟩:=HO3.o.c8;obtain⟨v0,st,wa,e1,g1,s1,lk1,hst⟩:=TMap.entry keysOp lawOp int_inj HM3.o.drew Tryz.underlying244 (zv:=0) zero_int (by unfold maxLen;omega) o HZo.o;obtain⟨wb,e2,m4,g4,s4⟩:=hst wa ((seenF (ops.take i) o).getD 0+1) rfl;have lk0:=TMap.lookup keysOp int_inj HM3.o.drew Tryz.underlying244 (zv:=0) (zero_int _) o HZo.o;have lk4:=TMap.lookup keysOp int_inj m4 Tryz.underlying244 (zv:=0) (zero_int _) o HZo.o;have hup:(updM (seenF (ops.take i)) o ((seenF (ops.take i) o).getD 0+1) o).getD 0=(seenF (ops.take i) o).getD 0+1:=(by simp [updM]);rw [hup] at lk4;rw [seen_step,← tsg HOo.o] at m4;rw [seen_get] at lk0 lk1 lk4 e2;have hcnt:(ops.take i).count o≤i:=Nat.le_trans List.count_le_length (List.length_take_le _ _);have HSM:=Lh (seen_many (ops.take i) o);generalize (ops.take i).count o=c at *;unfold opV at e1 lk0 lk1 lk4;have HMb4:=Lh m4;have HG4:Hid (World.grownBy w3 wb (some wA.heap.size)):=gtr (gtr (grown_drew (World.grownBy.refl w3 _)) g1) g4;have hne:=TMap.ne_arr HM3.o HO3.o;have HO4:=Lh (HO3.o.grown HG4.o (by simp;exact hne));have HB4:=Lh (HB3.o.grown HG4.o HB3.o.size fun k hk=>by cases hk;exact hAs);clear hst hup m4 g1 g4;(try clear p0 p1 p2 p3 sp);go_region;clear lk0 lk1 e1 e2 o0 o1 o2 o3 o4 o5 o6 o7 so;obtain⟨o0,o1,o2,o3,o4,o5,o6,o7,so⟩:=HO4.o.c8
           by_cases hmem:o∈ops.take i
           ·
            have d4:decide (1<(c:Int)+1)=true:=(by rw [HSM.o];simp [hmem]);cases hmk:makesB o.kind with
            | false =>have HN:=Lh (loop_no HOo.o (one_d (id:=id) hmem hmk));have HMK:=Lh hmk;clear hmk hmem;go_wp2_with fail;refine(pmakes_any o.kind _).mono ?_;rintro e w9 ⟨rfl,rfl⟩;rw [HMK.o];go_wp2;go_ret;exact⟨rvl (congrArg Value.bool (HQ.o.trans HN.o).symm),bvo HB.o HB4.o⟩
            | true =>
             have HN:=Lh (one_e HG1.o HL1.o HK5.o (.inr hmk));have HMK:=Lh hmk;clear hmk hmem;go_wp2_with fail;refine(pmakes_any o.kind _).mono ?_;rintro e w9 ⟨rfl,rfl⟩;rw [HMK.o];go_wp2;go_roundw
             case rel=>exact⟨i+1,hlt,by go_num,HMb4,pg_next HK.o HOo.o HN.o,HB4.o⟩
             case measure=>simp [intOf];omega
           ·
            have d4:decide (1<(c:Int)+1)=false:=(by rw [HSM.o];simp [hmem]);have HN:=Lh (one_e HG1.o HL1.o HK5.o (.inl hmem));clear hmem;go_wp2;go_roundw
            case rel=>exact⟨i+1,hlt,by go_num,HMb4,pg_next HK.o HOo.o HN.o,HB4.o⟩
            case measure=>simp [intOf];omega
      · obtain rfl:i=ops.length:=(by omega);have HN:=Lh (loop_yes (id:=id) (ops:=ops) fun j o ho=>HK.o j o (List.getElem?_eq_some_iff.1 ho).1 ho);go_wp2;go_ret;exact⟨rvl (congrArg Value.bool (HQ.o.trans HN.o).symm),bvo HB.o hbl⟩
    · have HE:Hid (decide (deps=depsM id ops)=false):=(by show _=_;simp [g3]);have HQ:=Lh (goodQ_d (deps:=deps) g3);clear g3;refine wlo 27 fun hcur=>?_;(repeat(first|refine lxq ?_|(refine lxl rfl ?_;go_wp2_with (first|(go_at_call 177;(with_reducible refine(pgoodPid_any id _).mono ?_);rintro e w' ⟨rfl,hb⟩;rw [HG.o];have hcur:=bvo hcur hb)|(go_at_call 109;(with_reducible refine(pdeps_any id _ ops _ (HV.o.over hcur) hl).mono ?_);rintro e w' ⟨dv2,rfl,hd2,hb⟩;have HD2:=Lh hd2.row;replace hcur:=bvo hcur hb;clear hb hd2)|(go_at_call 178;(with_reducible refine(equalPid_any _ _ deps (depsM id ops) _ (HD.o.over hcur) HD2.o).mono ?_);rintro e w' ⟨rfl,hb⟩;rw [HE.o];have hcur:=bvo hcur hb));refine⟨iov hcur,?_⟩)));refine lxe ?_;have HB3:=Lh (bvo HB.o hcur);clear hcur;go_wp2;go_ret;exact⟨rvb HQ.o,HB3.o⟩
   · have d2:decide ((200:Int)<(ops.length:Int))=true:=(by simp;omega);have HQ:=Lh (goodQ_c (id:=id) (deps:=deps) g2);refine wlo 27 fun hcur=>?_;(repeat(first|refine lxq ?_|(refine lxl rfl ?_;go_wp2_with (first|(go_at_call 177;(with_reducible refine(pgoodPid_any id _).mono ?_);rintro e w' ⟨rfl,hb⟩;rw [HG.o];have hcur:=bvo hcur hb));refine⟨iov hcur,?_⟩)));refine lxe ?_;have HB3:=Lh (bvo HB.o hcur);clear hcur;go_wp2;go_ret;exact⟨rvb HQ.o,HB3.o⟩
  · have d1:decide ((ops.length:Int)<1)=true:=(by simp;omega);have HQ:=Lh (goodQ_b (id:=id) (deps:=deps) g1);refine wlo 27 fun hcur=>?_;(repeat(first|refine lxq ?_|(refine lxl rfl ?_;go_wp2_with (first|(go_at_call 177;(with_reducible refine(pgoodPid_any id _).mono ?_);rintro e w' ⟨rfl,hb⟩;rw [HG.o];have hcur:=bvo hcur hb));refine⟨iov hcur,?_⟩)));refine lxe ?_;have HB3:=Lh (bvo HB.o hcur);clear hcur;go_wp2;go_ret;exact⟨rvb HQ.o,HB3.o⟩
end
section
def ownM(id:PidM)(ops:List OpM)(v:VidM)(k:UInt8):Bool:=decide (v.pid≠id) || (match ops[v.n.toNat]? with|some o=>o.kind == k|none=>false)
attribute [local irreducible] ownM
end
section
def kindsR(id:PidM)(ops:List OpM)(o:OpM):Bool:=
 if o.kind=2∨o.kind=3 then ownM id ops o.at' 1
 else if o.kind=4 then ownM id ops o.at' 3 && (ownM id ops o.to 3 && (decide (o.at'.pid≠id) || (decide (o.to.pid≠id) || decide ((ops[o.at'.n.toNat]?).map (·.at')=(ops[o.to.n.toNat]?).map (·.at')))))
 else true
def oneR(id:PidM)(ops:List OpM)(i:Nat)(o:OpM):Bool:=opGood id i o && (!laterB id o && (!(decide (4≤o.kind.toNat) && decide (o∈ops.take i)) && kindsR id ops o))
attribute [local irreducible] refsM opGood laterB oneR kindsR ownM laterOne
end
section
def loopR(id:PidM)(ops:List OpM):Bool:=(List.range ops.length).all fun i=>match ops[i]? with|some o=>oneR id ops i o|none=>false
def goodR(id:PidM)(deps:List PidM)(ops:List OpM):Bool:=goodPid id && (decide (1≤ops.length) && (decide (ops.length≤200) && (decide (deps=depsM id ops) && loopR id ops)))
theorem goodR_eq(p:PatchM):goodR p.id p.deps p.ops=goodP p:=rfl
attribute [local irreducible] refsM opGood laterB oneR loopR goodR goodPid depsM
end
section
variable{ops:List OpM}{i:Nat}{o:OpM}{id:PidM}
theorem own_lt(h:opGood id i o=true)(ho:ops[i]? = some o){v:VidM}(hv:v∈refsM o)(e:v.pid=id):∃ x,ops[v.n.toNat]? = some x:=
 gol (own_ref h ho v hv e)
theorem kindOk_own(h:opGood id i o=true)(ho:ops[i]? = some o){v:VidM}(hv:v∈refsM o):kindOkB id ops o v=ownM id ops v (wantK o):=by
 unfold kindOkB kindM ownM
 by_cases e:v.pid=id
 · obtain⟨x,hx⟩:=own_lt h ho hv e;rw [if_pos e,hx];simp [e]
 rw [if_neg e];simp [e]
theorem refs_kind:(o.kind=2∨o.kind=3→refsM o=[o.at'])∧(o.kind=4→refsM o=[o.at',o.to])∧(o.kind=1→refsM o=[]):=by
 unfold refsM;refine⟨fun h => ?_,fun h => ?_,fun h => ?_⟩
 · rcases h with h|h <;> simp [h]
 · simp [h]
 simp [h]
theorem suits_kinds(h:opGood id i o=true)(ho:ops[i]? = some o):(decide (o.kind=5) || suitsM id ops o)=kindsR id ops o:=by
 have hk:=opTail_kind (opGood_tail h);have hs:suitsM id ops o=((refsM o).all (fun v=>ownM id ops v (wantK o)) && sameAtB id ops o):=by unfold suitsM;congr 1;rw [Bool.eq_iff_iff,List.all_eq_true,List.all_eq_true];exact forall₂_congr fun v hv=>by rw [kindOk_own h ho hv]
 rw [hs];rcases hk with h1|h1|h1|h1|⟨h1,_⟩
 · unfold kindsR sameAtB;rw [(refs_kind).2.2 h1];simp [h1]
 · unfold kindsR sameAtB wantK;rw [(refs_kind).1 (.inl h1)];simp [h1]
 · unfold kindsR sameAtB wantK;rw [(refs_kind).1 (.inr h1)];simp [h1]
 ·
  unfold kindsR sameAtB wantK;rw [(refs_kind).2.1 h1];simp only [h1]
  by_cases ha:o.at'.pid=id <;> by_cases hb:o.to.pid=id <;> simp [ha,hb,Bool.and_assoc]
 unfold kindsR;simp [h1]
theorem one_same(ho:ops[i]? = some o):oneP id ops i o=oneR id ops i o:=by
 unfold oneP oneR;cases h:opGood id i o with
 | false=>rfl
 | true =>
  rw [suits_kinds h ho];have hm:(!makesB o.kind)=decide (4≤o.kind.toNat):=by rcases opTail_kind (opGood_tail h) with h1|h1|h1|h1|⟨h1,_⟩ <;> rw [h1] <;> decide
  rw [hm,Bool.and_comm (decide (o∈ops.take i)),Bool.and_comm (kindsR id ops o)]
theorem goodQ_eq(p:PatchM):goodQ p.id p.deps p.ops=goodP p:=by
 rw [← goodR_eq];unfold goodQ goodR;have:loopP p.id p.ops=loopR p.id p.ops:=by unfold loopP loopR;rw [Bool.eq_iff_iff,List.all_eq_true,List.all_eq_true];refine forall₂_congr fun i hi => ?_;obtain⟨o,ho⟩:=gol (List.mem_range.1 hi);rw [ho];simp only [one_same ho]
 rw [this]
end
end Go.Proofs.YtjccmcgglfncdaaGreatDoor
