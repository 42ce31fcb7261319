/- What is proved: PlanGives and MergeKeeps, for every input; of the listed tables the walk needs the powers of ten. -/
import Derived.Test.YtjccmcgglfncdaaGreatDoorBSuits
import Derived.Test.YtjccmcgglfncdaaGreatDoorBKeys
set_option linter.unusedVariables false
set_option linter.unusedSimpArgs false
set_option maxRecDepth 100000
set_option maxHeartbeats 40000000
namespace Go.Proofs.YtjccmcgglfncdaaGreatDoor
open Go Go.RowKit
section
variable{ops:List OpM}{deps:List PidM}{i:Nat}{o:OpM}{id:PidM}
def oneP(id:PidM)(ops:List OpM)(i:Nat)(o:OpM):Bool:=opGood id i o && (!laterB id o && ((decide (o.kind=5) || suitsM id ops o) && !(decide (o∈ops.take i) && !makesB o.kind)))
def loopP(id:PidM)(ops:List OpM):Bool:=(List.range ops.length).all fun i=>match ops[i]? with|some o=>oneP id ops i o|none=>false
def goodQ(id:PidM)(deps:List PidM)(ops:List OpM):Bool:=goodPid id && (decide (1≤ops.length) && (decide (ops.length≤200) && (decide (deps=depsM id ops) && loopP id ops)))
def seenF(ops:List OpM)(o:OpM):Option Int:=if o∈ops then some ((ops.count o:Nat):Int) else none
theorem seen_nil:seenF []=fun _=>none:=by funext o;simp [seenF]
theorem seen_get(ops:List OpM)(o:OpM):(seenF ops o).getD 0=((ops.count o:Nat):Int):=by
 unfold seenF;split
 · rfl
 rename_i h;rw [List.count_eq_zero.2 h];rfl
theorem seen_step(ops:List OpM)(o:OpM):updM (seenF ops) o ((seenF ops o).getD 0+1)=seenF (ops++[o]):=by
 funext x;rw [seen_get];unfold updM seenF
 by_cases h:x=o
 · subst h;rw [if_pos rfl,if_pos (by simp),List.count_append];simp
 rw [if_neg h,List.count_append];have:List.count x [o]=0:=List.count_eq_zero.2 (by simpa using h);rw [this];simp [h]
theorem seen_many(ops:List OpM)(o:OpM):decide (1<(ops.count o:Int)+1)=decide (o∈ops):=by
 rw [decide_eq_decide];constructor
 · intro h;exact List.count_pos_iff.1 (by omega)
 intro h;have:=List.count_pos_iff.2 h;omega
theorem loop_no(ho:ops[i]? = some o)(h:oneP id ops i o=false):loopP id ops=false:=by unfold loopP;refine List.all_eq_false.2 ⟨i,List.mem_range.2 (List.getElem?_eq_some_iff.1 ho).1,?_⟩;rw [ho];simp [h]
theorem loop_yes(h:∀ i o,ops[i]? = some o→oneP id ops i o=true):loopP id ops=true:=by unfold loopP;refine List.all_eq_true.2 fun i hi => ?_;obtain⟨o,ho⟩:=gol (List.mem_range.1 hi);rw [ho];exact h i o ho
theorem one_a(h:opGood id i o=false):oneP id ops i o=false:=by unfold oneP;rw [h];rfl
theorem one_b(h:laterB id o=true):oneP id ops i o=false:=by unfold oneP;rw [h];simp
theorem one_c(h5:¬ o.kind=5)(h:suitsM id ops o=false):oneP id ops i o=false:=by unfold oneP;rw [h];simp [h5]
theorem one_d(h:o∈ops.take i)(hm:makesB o.kind=false):oneP id ops i o=false:=by unfold oneP;rw [hm];simp [h]
theorem one_e(ha:opGood id i o=true)(hb:laterB id o=false)(hc:o.kind=5∨suitsM id ops o=true)(hd:¬ o∈ops.take i∨makesB o.kind=true):oneP id ops i o=true:=by
 have e1:(decide (o.kind=5) || suitsM id ops o)=true:=by rcases hc with h|h <;> simp [h]
 have e2:(decide (o∈ops.take i) && !makesB o.kind)=false:=by rcases hd with h|h <;> simp [h]
 unfold oneP;rw [ha,hb,e1,e2];rfl
theorem own_ref(h:opGood id i o=true)(ho:ops[i]? = some o):∀ v∈refsM o,v.pid=id→v.n.toNat<ops.length:=fun v hv e =>
 Nat.lt_trans ((opGood_refs h hv).2 e) (List.getElem?_eq_some_iff.1 ho).1
theorem TMap.ne_arr{P:Program}{k:TypeId}{κ ν:Type}{kenc:κ→Value}{ok:κ→Prop}{venc:ν→Value}{w:World}{b n:Nat}{f:κ→Option ν}(h:TMap P k kenc ok venc w b n f){g:Nat}{cs:List Value}(hA:Arr w g cs):g≠b:=by obtain⟨D,⟨es,clock,h1,_⟩,_⟩:=h;obtain⟨e,h2⟩:=hA;rintro rfl;rw [h1] at h2;cases h2
theorem zero_int(u:World):(zeroValue 3).run Tryz.prog u=.ok (.int .i64 0) u:=by kernel_rfl
theorem int_inj(x y:Int)(h:Value.int .i64 x=.int .i64 y):x=y:=by cases h;rfl
theorem pg_next(h:∀ j o,j<i→ops[j]? = some o→oneP id ops j o=true)(ho:ops[i]? = some o)(hn:oneP id ops i o=true):∀ j o,j<i+1→ops[j]? = some o→oneP id ops j o=true:=by
 intro j o' hj hj'
 by_cases e:j=i
 · subst e;rw [ho] at hj';cases hj';exact hn
 exact h j o' (by omega) hj'
def PgRel(w0:World)(id:PidM)(ops:List OpM)(bm:Nat)(v:Value)(wr:World):Prop:=
 ∃ i:Nat,i≤ops.length∧v=.int .i64 i∧Hid (TMap Tryz.prog 76 opV okOp (Value.int .i64) wr bm i (seenF (ops.take i)))∧Hid (∀ j o,j<i→ops[j]? = some o→oneP id ops j o=true)∧Be w0 wr
theorem goodQ_a(h:goodPid id=false):goodQ id deps ops=false:=by unfold goodQ;rw [h];rfl
theorem goodQ_b(h:¬ 1≤ops.length):goodQ id deps ops=false:=by unfold goodQ;simp;omega
theorem goodQ_c(h:¬ ops.length≤200):goodQ id deps ops=false:=by unfold goodQ;simp;omega
theorem goodQ_d(h:¬ deps=depsM id ops):goodQ id deps ops=false:=by unfold goodQ;simp [h]
theorem goodQ_e(h1:goodPid id=true)(h2:1≤ops.length)(h3:ops.length≤200)(h4:deps=depsM id ops):goodQ id deps ops=loopP id ops:=by unfold goodQ;rw [h1];simp [h2,h3,h4]
attribute [local irreducible] refsM opGood laterB suitsM oneP loopP goodQ goodPid depsM seenF makesB
theorem pgood_any(id:PidM)(dv ov:Value)(deps:List PidM)(ops:List OpM)(w:World)(hd:GRow encPid 2 w dv deps)(hv:GRow encOp 8 w ov ops)(hl:ops.length≤40000)(hz:∀ o∈ops,o.text.size≤maxLen) :
  Calls Tryz.prog 111 #[patV id dv ov] w fun e w'=>e=.returned (.bool (goodQ id deps ops))∧Be w w':=by
 have HV0:=Lh hv;have HD0:=Lh hd;have HZ:=Lh hz;obtain⟨a,cap,rfl,h1,h2,hc⟩:=hv.at encOp_len;obtain⟨ad,capd,rfl,h1d,h2d,_⟩:=hd.at encPid_len;unfold maxLen at h2 h2d;have HC:=Lh hc;have HP:=Lh (anw w #[.int .u8 id.author.toNat,.int .u16 id.seq.toNat,.slice ad deps.length capd,.slice a ops.length cap] 44);have HB:=Lh (bnew (w:=w) (.cells #[.int .u8 id.author.toNat,.int .u16 id.seq.toNat,.slice ad deps.length capd,.slice a ops.length cap] 44));clear hv hd hc hz;unfold patV;go_enter Tryz.func111,Tryz.ntmps111;go_upto_region 1 with fail;generalize w.alloc (.cells #[.int .u8 id.author.toNat,.int .u16 id.seq.toNat,.slice ad deps.length capd,.slice a ops.length cap] 44)=w0 at *;have HV:=Lh (HV0.o.over HB.o);have HD:=Lh (HD0.o.over HB.o);obtain⟨p0,p1,p2,p3,sp⟩:=HP.o.c4;cases hg:goodPid id with
 | false =>
  have HQ:=Lh (goodQ_a (deps:=deps) (ops:=ops) hg);have HG:=Lh hg;clear hg;refine wlo 27 fun hcur=>?_;repeat(first|refine lxq ?_|(refine lxl rfl ?_;go_wp2_with (first|(go_at_call 177;(with_reducible refine(pgoodPid_any id _).mono ?_);rintro e w' ⟨rfl,hb⟩;rw [HG.o];have hcur:=bvo hcur hb));refine⟨iov hcur,?_⟩))
  refine lxe ?_;have HB3:=Lh (bvo HB.o hcur);clear hcur;go_wp2;go_ret;exact⟨rvb HQ.o,HB3.o⟩
 | true =>
  have HG:=Lh hg;clear hg
  by_cases g1:1≤ops.length
  ·
   have d1:decide ((ops.length:Int)<1)=false:=by simp;omega
   by_cases g2:ops.length≤200
   ·
    have d2:decide ((200:Int)<(ops.length:Int))=false:=by simp;omega
    by_cases g3:deps=depsM id ops
    ·
     have HE:Hid (decide (deps=depsM id ops)=true):=(by show _=_;simp [g3]);have HQ:=Lh (goodQ_e HG.o g1 g2 g3);clear g3;refine wlo 27 fun hcur=>?_;(repeat(first|refine lxq ?_|(refine lxl rfl ?_;go_wp2_with (first|(go_at_call 177;(with_reducible refine(pgoodPid_any id _).mono ?_);rintro e w' ⟨rfl,hb⟩;rw [HG.o];have hcur:=bvo hcur hb)|(go_at_call 109;(with_reducible refine(pdeps_any id _ ops _ (HV.o.over hcur) hl).mono ?_);rintro e w' ⟨dv2,rfl,hd2,hb⟩;have HD2:=Lh hd2.row;replace hcur:=bvo hcur hb;clear hb hd2)|(go_at_call 178;(with_reducible refine(equalPid_any _ _ deps (depsM id ops) _ (HD.o.over hcur) HD2.o).mono ?_);rintro e wA ⟨rfl,hb⟩;rw [HE.o];have hcur:=bvo hcur hb));refine⟨iov hcur,?_⟩)));refine lxe ?_;have HA0:=Lh hcur;have hAs:=hcur.size;have hmm:=@run_makeMap Tryz.prog;have HPA:=Lh (HP.o.over hcur);clear hcur p0 p1 p2 p3 sp;obtain⟨p0,p1,p2,p3,sp⟩:=HPA.o.c4;go_wp2_with fail;clear p0 p1 p2 p3 sp;go_loopw [37] (fun v37 wr=>PgRel w0 id ops wA.heap.size v37 wr) (fun v37 _=>ops.length - (intOf v37).toNat)
     case atStart=>exact⟨0,by omega,rfl,(by show TMap _ _ _ _ _ _ _ _ _;rw [List.take_zero,seen_nil];exact TMap.made wA),fun j o hj=>absurd hj (Nat.not_lt_zero _),HA0.o.alloc hAs _⟩
     case round =>
      obtain⟨i,hi,rfl,HM,HK,hbl⟩:=hrel
      by_cases hlt:i<ops.length
      ·
       obtain⟨b,off,rfl,sb,hcb⟩:=HC.o.resolve_left (by omega);obtain⟨o,ho⟩:=gol hlt;have HCo:=Lh (hcb i o ho wr (bvo HB.o hbl));have HOo:=Lh ho;have hzo:o.text.size≤maxLen:=HZ.o o (List.mem_of_getElem? ho);have HZo:=Lh hzo;have HPr:=Lh (HP.o.over hbl);obtain⟨o0,o1,o2,o3,o4,o5,o6,o7,so⟩:=rc8 HCo.o;clear hcb ho hzo;have HOb:Hid (Arr (wr.alloc (.cells (cO o) 76)) wr.heap.size [.int .u8 o.kind.toNat,.int .u8 o.at'.pid.author.toNat,.int .u16 o.at'.pid.seq.toNat,.int .u8 o.at'.n.toNat,.int .u8 o.to.pid.author.toNat,.int .u16 o.to.pid.seq.toNat,.int .u8 o.to.n.toNat,.string o.text]):=anw _ _ _;have HMb:=Lh (HM.o.alloc (.cells (cO o) 76));have HBb:=Lh (bvo hbl (bnew (w:=wr) (.cells (cO o) 76)));go_upto_region 7 with fail;generalize wr.alloc (.cells (cO o) 76)=wo at *;clear so o0 o1 o2 o3 o4 o5 o6 o7;have HPo:=Lh (HP.o.over HBb.o);obtain⟨o0,o1,o2,o3,o4,o5,o6,o7,so⟩:=HOb.o.c8;obtain⟨p0,p1,p2,p3,sp⟩:=HPo.o.c4;go_wp2_with fail;refine(pogood_any id i o _ (by omega) HZo.o).mono ?_;rintro e w1 ⟨rfl,hb1⟩;have HB1:=Lh (bvo HBb.o hb1);have HO1:=Lh (HOb.o.over hb1);have HM1:=Lh (HMb.o.over hb1);have HP1:=Lh (HP.o.over HB1.o);clear o0 o1 o2 o3 o4 o5 o6 o7 so p0 p1 p2 p3 sp hb1;cases hg1:opGood id i o with
       | false =>have HN:=Lh (loop_no HOo.o (one_a hg1));clear hg1;go_wp2;go_ret;exact⟨rvl (congrArg Value.bool (HQ.o.trans HN.o).symm),bvo HB.o HB1.o⟩
       | true =>
        have HG1:=Lh hg1;clear hg1;obtain⟨o0,o1,o2,o3,o4,o5,o6,o7,so⟩:=HO1.o.c8;obtain⟨p0,p1,p2,p3,sp⟩:=HP1.o.c4;go_wp2_with fail;refine(plater_any id o _).mono ?_;rintro e w2 ⟨rfl,hb2⟩;have HB2:=Lh (bvo HB1.o hb2);have HO2:=Lh (HO1.o.over hb2);have HM2:=Lh (HM1.o.over hb2);have HP2:=Lh (HP.o.over HB2.o);clear o0 o1 o2 o3 o4 o5 o6 o7 so p0 p1 p2 p3 sp hb2;cases hl1:laterB id o with
        | true =>have HN:=Lh (loop_no HOo.o (one_b (i:=i) (ops:=ops) hl1));clear hl1;go_wp2;go_ret;exact⟨rvl (congrArg Value.bool (HQ.o.trans HN.o).symm),bvo HB.o HB2.o⟩
        | false =>
         have HL1:=Lh hl1;clear hl1;obtain⟨o0,o1,o2,o3,o4,o5,o6,o7,so⟩:=HO2.o.c8;obtain⟨p0,p1,p2,p3,sp⟩:=HP2.o.c4
         by_cases h5:o.kind.toNat=5
         ·
          have e5:((o.kind.toNat:Int) != 5)=false:=(by simp;omega);have HK5:Hid (o.kind=5∨suitsM id ops o=true):=.inl ((u8_nat _ 5 (by omega)).2 h5);clear h5;go_upto_region 9 with fail;obtain⟨v0,st,wa,e1,g1,s1,lk1,hst⟩:=TMap.entry keysOp lawOp int_inj HM2.o.drew Tryz.underlying244 (zv:=0) zero_int (by unfold maxLen;omega) o HZo.o;obtain⟨wb,e2,m4,g4,s4⟩:=hst wa ((seenF (ops.take i) o).getD 0+1) rfl;have lk0:=TMap.lookup keysOp int_inj HM2.o.drew Tryz.underlying244 (zv:=0) (zero_int _) o HZo.o;have lk4:=TMap.lookup keysOp int_inj m4 Tryz.underlying244 (zv:=0) (zero_int _) o HZo.o;have hup:(updM (seenF (ops.take i)) o ((seenF (ops.take i) o).getD 0+1) o).getD 0=(seenF (ops.take i) o).getD 0+1:=(by simp [updM]);rw [hup] at lk4;rw [seen_step,← tsg HOo.o] at m4;rw [seen_get] at lk0 lk1 lk4 e2;have hcnt:(ops.take i).count o≤i:=Nat.le_trans List.count_le_length (List.length_take_le _ _);have HSM:=Lh (seen_many (ops.take i) o);generalize (ops.take i).count o=c at *;unfold opV at e1 lk0 lk1 lk4;have HMb4:=Lh m4;have HG4:Hid (World.grownBy w2 wb (some wA.heap.size)):=gtr (gtr (grown_drew (World.grownBy.refl w2 _)) g1) g4;have hne:=TMap.ne_arr HM2.o HO2.o;have HO4:=Lh (HO2.o.grown HG4.o (by simp;exact hne));have HB4:=Lh (HB2.o.grown HG4.o HB2.o.size fun k hk=>by cases hk;exact hAs);clear hst hup m4 g1 g4;(try clear p0 p1 p2 p3 sp);go_region;clear lk0 lk1 e1 e2 o0 o1 o2 o3 o4 o5 o6 o7 so;obtain⟨o0,o1,o2,o3,o4,o5,o6,o7,so⟩:=HO4.o.c8
          by_cases hmem:o∈ops.take i
          ·
           have d4:decide (1<(c:Int)+1)=true:=(by rw [HSM.o];simp [hmem]);cases hmk:makesB o.kind with
           | false =>have HN:=Lh (loop_no HOo.o (one_d (id:=id) hmem hmk));have HMK:=Lh hmk;clear hmk hmem;go_wp2_with fail;refine(pmakes_any o.kind _).mono ?_;rintro e w9 ⟨rfl,rfl⟩;rw [HMK.o];go_wp2;go_ret;exact⟨rvl (congrArg Value.bool (HQ.o.trans HN.o).symm),bvo HB.o HB4.o⟩
           | true =>
            have HN:=Lh (one_e HG1.o HL1.o HK5.o (.inr hmk));have HMK:=Lh hmk;clear hmk hmem;go_wp2_with fail;refine(pmakes_any o.kind _).mono ?_;rintro e w9 ⟨rfl,rfl⟩;rw [HMK.o];go_wp2;go_roundw
            case rel=>exact⟨i+1,hlt,by go_num,HMb4,pg_next HK.o HOo.o HN.o,HB4.o⟩
            case measure=>simp [intOf];omega
          ·
           have d4:decide (1<(c:Int)+1)=false:=(by rw [HSM.o];simp [hmem]);have HN:=Lh (one_e HG1.o HL1.o HK5.o (.inl hmem));clear hmem;go_wp2;go_roundw
           case rel=>exact⟨i+1,hlt,by go_num,HMb4,pg_next HK.o HOo.o HN.o,HB4.o⟩
           case measure=>simp [intOf];omega
         ·
          have e5:((o.kind.toNat:Int) != 5)=true:=(by simp;omega);have HK5:Hid (¬ o.kind=5):=fun h=>h5 ((u8_nat _ 5 (by omega)).1 h);clear h5;go_wp2_with fail;refine(psuits_any id _ _ ops o _ (HV.o.over HB2.o) (own_ref HG1.o HOo.o)).mono ?_;rintro e w3 ⟨rfl,hb3⟩;have HB3:=Lh (bvo HB2.o hb3);have HO3:=Lh (HO2.o.over hb3);have HM3:=Lh (HM2.o.over hb3);clear o0 o1 o2 o3 o4 o5 o6 o7 so p0 p1 p2 p3 sp hb3;cases hs1:suitsM id ops o with
          | false =>have HN:=Lh (loop_no HOo.o (one_c (i:=i) HK5.o hs1));clear hs1;go_wp2;go_ret;exact⟨rvl (congrArg Value.bool (HQ.o.trans HN.o).symm),bvo HB.o HB3.o⟩
          | true =>
           have HK5:Hid (o.kind=5∨suitsM id ops o=true):=.inr hs1;clear hs1;go_upto_region 9 with fail;obtain⟨o0,o1,o2,o3,o4,o5,o6,o7,so⟩:=HO3.o.c8;obtain⟨v0,st,wa,e1,g1,s1,lk1,hst⟩:=TMap.entry keysOp lawOp int_inj HM3.o.drew Tryz.underlying244 (zv:=0) zero_int (by unfold maxLen;omega) o HZo.o;obtain⟨wb,e2,m4,g4,s4⟩:=hst wa ((seenF (ops.take i) o).getD 0+1) rfl;have lk0:=TMap.lookup keysOp int_inj HM3.o.drew Tryz.underlying244 (zv:=0) (zero_int _) o HZo.o;have lk4:=TMap.lookup keysOp int_inj m4 Tryz.underlying244 (zv:=0) (zero_int _) o HZo.o;have hup:(updM (seenF (ops.take i)) o ((seenF (ops.take i) o).getD 0+1) o).getD 0=(seenF (ops.take i) o).getD 0+1:=(by simp [updM]);rw [hup] at lk4;rw [seen_step,← tsg HOo.o] at m4;rw [seen_get] at lk0 lk1 lk4 e2;have hcnt:(ops.take i).count o≤i:=Nat.le_trans List.count_le_length (List.length_take_le _ _);have HSM:=Lh (seen_many (ops.take i) o);generalize (ops.take i).count o=c at *;unfold opV at e1 lk0 lk1 lk4;have HMb4:=Lh m4;have HG4:Hid (World.grownBy w3 wb (some wA.heap.size)):=gtr (gtr (grown_drew (World.grownBy.refl w3 _)) g1) g4;have hne:=TMap.ne_arr HM3.o HO3.o;have HO4:=Lh (HO3.o.grown HG4.o (by simp;exact hne));have HB4:=Lh (HB3.o.grown HG4.o HB3.o.size fun k hk=>by cases hk;exact hAs);clear hst hup m4 g1 g4;(try clear p0 p1 p2 p3 sp);go_region;clear lk0 lk1 e1 e2 o0 o1 o2 o3 o4 o5 o6 o7 so;obtain⟨o0,o1,o2,o3,o4,o5,o6,o7,so⟩:=HO4.o.c8
           by_cases hmem:o∈ops.take i
           ·
            have d4:decide (1<(c:Int)+1)=true:=(by rw [HSM.o];simp [hmem]);cases hmk:makesB o.kind with
            | false =>have HN:=Lh (loop_no HOo.o (one_d (id:=id) hmem hmk));have HMK:=Lh hmk;clear hmk hmem;go_wp2_with fail;refine(pmakes_any o.kind _).mono ?_;rintro e w9 ⟨rfl,rfl⟩;rw [HMK.o];go_wp2;go_ret;exact⟨rvl (congrArg Value.bool (HQ.o.trans HN.o).symm),bvo HB.o HB4.o⟩
            | true =>
             have HN:=Lh (one_e HG1.o HL1.o HK5.o (.inr hmk));have HMK:=Lh hmk;clear hmk hmem;go_wp2_with fail;refine(pmakes_any o.kind _).mono ?_;rintro e w9 ⟨rfl,rfl⟩;rw [HMK.o];go_wp2;go_roundw
             case rel=>exact⟨i+1,hlt,by go_num,HMb4,pg_next HK.o HOo.o HN.o,HB4.o⟩
             case measure=>simp [intOf];omega
           ·
            have d4:decide (1<(c:Int)+1)=false:=(by rw [HSM.o];simp [hmem]);have HN:=Lh (one_e HG1.o HL1.o HK5.o (.inl hmem));clear hmem;go_wp2;go_roundw
            case rel=>exact⟨i+1,hlt,by go_num,HMb4,pg_next HK.o HOo.o HN.o,HB4.o⟩
            case measure=>simp [intOf];omega
      · obtain rfl:i=ops.length:=(by omega);have HN:=Lh (loop_yes (id:=id) (ops:=ops) fun j o ho=>HK.o j o (List.getElem?_eq_some_iff.1 ho).1 ho);go_wp2;go_ret;exact⟨rvl (congrArg Value.bool (HQ.o.trans HN.o).symm),bvo HB.o hbl⟩
    · have HE:Hid (decide (deps=depsM id ops)=false):=(by show _=_;simp [g3]);have HQ:=Lh (goodQ_d (deps:=deps) g3);clear g3;refine wlo 27 fun hcur=>?_;(repeat(first|refine lxq ?_|(refine lxl rfl ?_;go_wp2_with (first|(go_at_call 177;(with_reducible refine(pgoodPid_any id _).mono ?_);rintro e w' ⟨rfl,hb⟩;rw [HG.o];have hcur:=bvo hcur hb)|(go_at_call 109;(with_reducible refine(pdeps_any id _ ops _ (HV.o.over hcur) hl).mono ?_);rintro e w' ⟨dv2,rfl,hd2,hb⟩;have HD2:=Lh hd2.row;replace hcur:=bvo hcur hb;clear hb hd2)|(go_at_call 178;(with_reducible refine(equalPid_any _ _ deps (depsM id ops) _ (HD.o.over hcur) HD2.o).mono ?_);rintro e w' ⟨rfl,hb⟩;rw [HE.o];have hcur:=bvo hcur hb));refine⟨iov hcur,?_⟩)));refine lxe ?_;have HB3:=Lh (bvo HB.o hcur);clear hcur;go_wp2;go_ret;exact⟨rvb HQ.o,HB3.o⟩
   · have d2:decide ((200:Int)<(ops.length:Int))=true:=(by simp;omega);have HQ:=Lh (goodQ_c (id:=id) (deps:=deps) g2);refine wlo 27 fun hcur=>?_;(repeat(first|refine lxq ?_|(refine lxl rfl ?_;go_wp2_with (first|(go_at_call 177;(with_reducible refine(pgoodPid_any id _).mono ?_);rintro e w' ⟨rfl,hb⟩;rw [HG.o];have hcur:=bvo hcur hb));refine⟨iov hcur,?_⟩)));refine lxe ?_;have HB3:=Lh (bvo HB.o hcur);clear hcur;go_wp2;go_ret;exact⟨rvb HQ.o,HB3.o⟩
  · have d1:decide ((ops.length:Int)<1)=true:=(by simp;omega);have HQ:=Lh (goodQ_b (id:=id) (deps:=deps) g1);refine wlo 27 fun hcur=>?_;(repeat(first|refine lxq ?_|(refine lxl rfl ?_;go_wp2_with (first|(go_at_call 177;(with_reducible refine(pgoodPid_any id _).mono ?_);rintro e w' ⟨rfl,hb⟩;rw [HG.o];have hcur:=bvo hcur hb));refine⟨iov hcur,?_⟩)));refine lxe ?_;have HB3:=Lh (bvo HB.o hcur);clear hcur;go_wp2;go_ret;exact⟨rvb HQ.o,HB3.o⟩
end
section
def ownM(id:PidM)(ops:List OpM)(v:VidM)(k:UInt8):Bool:=decide (v.pid≠id) || (match ops[v.n.toNat]? with|some o=>o.kind == k|none=>false)
attribute [local irreducible] ownM
end
section
def kindsR(id:PidM)(ops:List OpM)(o:OpM):Bool:=
 if o.kind=2∨o.kind=3 then ownM id ops o.at' 1
 else if o.kind=4 then ownM id ops o.at' 3 && (ownM id ops o.to 3 && (decide (o.at'.pid≠id) || (decide (o.to.pid≠id) || decide ((ops[o.at'.n.toNat]?).map (·.at')=(ops[o.to.n.toNat]?).map (·.at')))))
 else true
def oneR(id:PidM)(ops:List OpM)(i:Nat)(o:OpM):Bool:=opGood id i o && (!laterB id o && (!(decide (4≤o.kind.toNat) && decide (o∈ops.take i)) && kindsR id ops o))
attribute [local irreducible] refsM opGood laterB oneR kindsR ownM laterOne
end
section
def loopR(id:PidM)(ops:List OpM):Bool:=(List.range ops.length).all fun i=>match ops[i]? with|some o=>oneR id ops i o|none=>false
def goodR(id:PidM)(deps:List PidM)(ops:List OpM):Bool:=goodPid id && (decide (1≤ops.length) && (decide (ops.length≤200) && (decide (deps=depsM id ops) && loopR id ops)))
theorem goodR_eq(p:PatchM):goodR p.id p.deps p.ops=goodP p:=rfl
attribute [local irreducible] refsM opGood laterB oneR loopR goodR goodPid depsM
end
section
variable{ops:List OpM}{i:Nat}{o:OpM}{id:PidM}
theorem own_lt(h:opGood id i o=true)(ho:ops[i]? = some o){v:VidM}(hv:v∈refsM o)(e:v.pid=id):∃ x,ops[v.n.toNat]? = some x:=
 gol (own_ref h ho v hv e)
theorem kindOk_own(h:opGood id i o=true)(ho:ops[i]? = some o){v:VidM}(hv:v∈refsM o):kindOkB id ops o v=ownM id ops v (wantK o):=by
 unfold kindOkB kindM ownM
 by_cases e:v.pid=id
 · obtain⟨x,hx⟩:=own_lt h ho hv e;rw [if_pos e,hx];simp [e]
 rw [if_neg e];simp [e]
theorem refs_kind:(o.kind=2∨o.kind=3→refsM o=[o.at'])∧(o.kind=4→refsM o=[o.at',o.to])∧(o.kind=1→refsM o=[]):=by
 unfold refsM;refine⟨fun h => ?_,fun h => ?_,fun h => ?_⟩
 · rcases h with h|h <;> simp [h]
 · simp [h]
 simp [h]
theorem suits_kinds(h:opGood id i o=true)(ho:ops[i]? = some o):(decide (o.kind=5) || suitsM id ops o)=kindsR id ops o:=by
 have hk:=opTail_kind (opGood_tail h);have hs:suitsM id ops o=((refsM o).all (fun v=>ownM id ops v (wantK o)) && sameAtB id ops o):=by unfold suitsM;congr 1;rw [Bool.eq_iff_iff,List.all_eq_true,List.all_eq_true];exact forall₂_congr fun v hv=>by rw [kindOk_own h ho hv]
 rw [hs];rcases hk with h1|h1|h1|h1|⟨h1,_⟩
 · unfold kindsR sameAtB;rw [(refs_kind).2.2 h1];simp [h1]
 · unfold kindsR sameAtB wantK;rw [(refs_kind).1 (.inl h1)];simp [h1]
 · unfold kindsR sameAtB wantK;rw [(refs_kind).1 (.inr h1)];simp [h1]
 ·
  unfold kindsR sameAtB wantK;rw [(refs_kind).2.1 h1];simp only [h1]
  by_cases ha:o.at'.pid=id <;> by_cases hb:o.to.pid=id <;> simp [ha,hb,Bool.and_assoc]
 unfold kindsR;simp [h1]
theorem one_same(ho:ops[i]? = some o):oneP id ops i o=oneR id ops i o:=by
 unfold oneP oneR;cases h:opGood id i o with
 | false=>rfl
 | true =>
  rw [suits_kinds h ho];have hm:(!makesB o.kind)=decide (4≤o.kind.toNat):=by rcases opTail_kind (opGood_tail h) with h1|h1|h1|h1|⟨h1,_⟩ <;> rw [h1] <;> decide
  rw [hm,Bool.and_comm (decide (o∈ops.take i)),Bool.and_comm (kindsR id ops o)]
theorem goodQ_eq(p:PatchM):goodQ p.id p.deps p.ops=goodP p:=by
 rw [← goodR_eq];unfold goodQ goodR;have:loopP p.id p.ops=loopR p.id p.ops:=by unfold loopP loopR;rw [Bool.eq_iff_iff,List.all_eq_true,List.all_eq_true];refine forall₂_congr fun i hi => ?_;obtain⟨o,ho⟩:=gol (List.mem_range.1 hi);rw [ho];simp only [one_same ho]
 rw [this]
end
end Go.Proofs.YtjccmcgglfncdaaGreatDoor
set_option maxRecDepth 100000
set_option maxHeartbeats 40000000
namespace Go.Proofs.YtjccmcgglfncdaaGreatDoor
open Go Go.RowKit
variable{cs:List Value}{g:Nat}{p:PidM}{a:UInt8}{f:VecM}
section
variable {P : Program} {ty : TypeId} {size : Nat} {w : World} {ops : Array Oper} {rest : List Oper} {o : Oper} {a : Act} {Q : Exit → Act → World → Prop}
theorem run_load_row(T:RowT P ty size)(hA:Arr w g cs)(hl:cs.length=size):(loadVar ty ⟨g,0,none⟩).run P w=.ok (.agg cs.toArray) w:=by obtain⟨d,i,h1,h2,h3,h4⟩:=T.out;obtain⟨e,hg⟩:=hA;exact run_loadVar_row w g e ty cs.toArray (0,0) d hg h1 (by cases d <;> simp_all [isRowD]) (by rw [h3];simp [h4,hl])
theorem lex_load_row{C:World→Prop}{loud:Nat→Bool}{Q:Act→World→Prop}(T:RowT P ty size){k:Nat}{l:List Oper}(hl:loud k=false)(x:Operand)(ho:o.op=.load ty x)
  (hw:Region.wanted o (yielded ops a.tmps)=true)   (hx:a.eval x=.pointer (some ⟨g,0,none⟩)) (hA:∀ w',C w'→Arr w' g cs) (hlen:cs.length=size)
  (h:wpLex P ops C loud Q (k+1) l (a.put o.dst (.agg cs.toArray)) w):wpLex P ops C loud Q k (o :: l) a w:=by unfold wpLex;rw [if_pos hw,hl];refine⟨.agg cs.toArray,fun w' hw' => ?_,h⟩;unfold Oper.quietAt execOp;simp only [ho,hx,Instr.loadAt,Instr.sureAddr,Sem.run_bind,Sem.run_pure,Result.andThen_ok,run_load_row T (hA w' hw') hlen];exact⟨rfl,rfl⟩
theorem wpList_load_arrG(T:RowT P ty size)(hw:Region.wanted o (yielded ops a.tmps)=true)(x:Operand)(ho:o.op=.load ty x)(g:Nat)(cs:List Value)(hA:Arr w g cs)(hx:a.eval x=.pointer (some ⟨g,0,none⟩))(hl:cs.length=size)
  (h:wpList P ops Q rest (a.put o.dst (.agg cs.toArray)) w):wpList P ops Q (o :: rest) a w:=by refine wpList_step fun K hK => ?_;rw [if_pos hw];unfold Oper.wp execOp;simp only [ho,hx,Instr.loadAt,Instr.sureAddr,Sem.run_bind,Sem.run_pure,Result.andThen_ok,run_load_row T hA hl];exact hK _ _ h
theorem run_load_part(hag:∀ w,(isAgg ty).run P w=.ok true w)(hsz:∀ w,(Go.sizeOf ty).run P w=.ok size w){more:List Value}(hA:Arr w g (cs++more))(hl:cs.length=size):(loadVar ty ⟨g,0,none⟩).run P w=.ok (.agg cs.toArray) w:=by have h:=run_loadCells_list (P:=P) (w:=w) ⟨g,0,none⟩ cs (fun j v hv=>by have:=hA.cell (j:=j) (u:=v) (by rw [List.getElem?_append_left (List.getElem?_eq_some_iff.1 hv).1];exact hv);rw [Addr.add_lit,Nat.zero_add];exact this);rw [hl] at h;simp [loadVar,hag,hsz,h]
theorem lex_load_part{C:World→Prop}{loud:Nat→Bool}{Q:Act→World→Prop}(hag:∀ w,(isAgg ty).run P w=.ok true w)(hsz:∀ w,(Go.sizeOf ty).run P w=.ok size w){k:Nat}{l:List Oper}(hl:loud k=false)(x:Operand)(ho:o.op=.load ty x)
  (hw:Region.wanted o (yielded ops a.tmps)=true)  {more:List Value} (hx:a.eval x=.pointer (some ⟨g,0,none⟩)) (hA:∀ w',C w'→Arr w' g (cs++more)) (hlen:cs.length=size)
  (h:wpLex P ops C loud Q (k+1) l (a.put o.dst (.agg cs.toArray)) w):wpLex P ops C loud Q k (o :: l) a w:=by unfold wpLex;rw [if_pos hw,hl];refine⟨.agg cs.toArray,fun w' hw' => ?_,h⟩;unfold Oper.quietAt execOp;simp only [ho,hx,Instr.loadAt,Instr.sureAddr,Sem.run_bind,Sem.run_pure,Result.andThen_ok,run_load_part hag hsz (hA w' hw') hlen];exact⟨rfl,rfl⟩
theorem wpList_store_part(T:RowT P ty size)(hgd:o.guard=none)(x y:Operand)(ho:o.op=.store ty x y)(g:Nat)(cs more new:List Value)(hA:Arr w g (cs++more))(hx:a.eval x=.pointer (some ⟨g,0,none⟩))
  (hy:a.eval y=.agg new.toArray) (hl:cs.length=size) (hn:new.length=size) (h1:new.all (fun u=>u.oneCell')=true)
  (h:Arr (w.setRow g (new++more).toArray) g (new++more)→w.grownBy (w.setRow g (new++more).toArray) (some g)→(w.setRow g (new++more).toArray).heap.size=w.heap.size→wpList P ops Q rest (a.put o.dst undef) (w.setRow g (new++more).toArray)):wpList P ops Q (o :: rest) a w:=by
 refine wpList_plain hgd fun K hK => ?_;have hA':=hA;obtain⟨d,i,_,_,h3,h4⟩:=T.out;obtain⟨e,hg⟩:=hA;have hs:=run_storeCells_at (P:=P) g 0 e new 0 (cs++more).toArray w hg (by simp;omega) (fun v hv=>List.all_eq_true.1 h1 v hv);have ht:((cs++more).toArray.toList.take (0+0)++new++(cs++more).toArray.toList.drop (0+0+new.length)).toArray=(new++more).toArray:=by simp only [Nat.zero_add,List.take_zero,List.nil_append];rw [hn,← hl,List.drop_append_of_le_length (Nat.le_refl _),List.drop_length,List.nil_append]
 rw [ht] at hs;have hc:(Value.agg new.toArray).cells=new.toArray:=rfl;have hr:(storeVar ty ⟨g,0,none⟩ (.agg new.toArray)).run P w=.ok () (w.setRow g (new++more).toArray):=by simp [storeVar,sizeOf,typeInfo,h3,h4,hc,hn,hs]
 unfold Oper.wp execOp;simp only [ho,hx,hy,Instr.storeAt,Instr.sureAddr,Sem.run_bind,Sem.run_pure,Result.andThen_ok,hr];exact hK _ _ (h (hA'.row _) (grown_row _) (by simp))
end
theorem code_gen{P:Program}{c:Code}{Q:Exit→Act→World→Prop}{a:Act}{w:World}(F:World→Prop)(hF:F w)(h:∀ w0,F w0→c.wp P Q a w0):c.wp P Q a w:=h w hF
def vecL(f:VecM):List Value:=(List.range 64).map fun i=>.int .u16 ((f (UInt8.ofNat (i+1)):Nat):Int)
abbrev vecV(f:VecM):Value:=.agg (vecL f).toArray
theorem vecL_len(f:VecM):(vecL f).length=64:=by simp [vecL]
theorem vecL_one(f:VecM):(vecL f).all (fun u=>u.oneCell')=true:=by rw [List.all_eq_true];intro u hu;obtain⟨i,_,rfl⟩:=List.mem_map.1 hu;rfl
theorem vecL_get(f:VecM)(a:UInt8)(h1:1≤a.toNat)(h2:a.toNat≤64):(vecL f)[a.toNat - 1]? = some (.int .u16 ((f a:Nat):Int)):=by
 unfold vecL;rw [List.getElem?_map,List.getElem?_range (by omega)];simp only [Option.map_some];have:UInt8.ofNat (a.toNat - 1+1)=a:=by apply UInt8.toNat_inj.1;simp;omega
 rw [this]
def setV(f:VecM)(a:UInt8)(n:Nat):VecM:=fun b=>if b=a then n else f b
theorem vecL_set(f:VecM)(a:UInt8)(n:Nat)(h1:1≤a.toNat)(h2:a.toNat≤64):(vecL f).set (a.toNat - 1) (.int .u16 n)=vecL (setV f a n):=by
 apply List.ext_getElem?;intro t;rw [List.getElem?_set]
 by_cases ht:t<64
 ·
  have e1:(vecL f)[t]? = some (.int .u16 ((f (UInt8.ofNat (t+1)):Nat):Int)):=by unfold vecL;rw [List.getElem?_map,List.getElem?_range ht];rfl
  have e2:(vecL (setV f a n))[t]? = some (.int .u16 ((setV f a n (UInt8.ofNat (t+1)):Nat):Int)):=by unfold vecL;rw [List.getElem?_map,List.getElem?_range ht];rfl
  rw [e1,e2];unfold setV
  by_cases h:a.toNat - 1=t
  · have:UInt8.ofNat (t+1)=a:=(by apply UInt8.toNat_inj.1;simp;omega);rw [if_pos h,if_pos this,if_pos (by rw [vecL_len];omega)]
  have:¬ UInt8.ofNat (t+1)=a:=fun e=>h (by rw [← e];simp;omega);rw [if_neg h,if_neg this]
 rw [if_neg (by omega),List.getElem?_eq_none (by rw [vecL_len];omega),List.getElem?_eq_none (by rw [vecL_len];omega)]
theorem rowVec:RowT Tryz.prog 54 64:=rowT_of Tryz.underlying54 rfl (by kernel_rfl)
theorem rowPid:RowT Tryz.prog 25 2:=rowT_of Tryz.underlying25 rfl (by kernel_rfl)
def numM(f:VecM)(a:UInt8):Nat:=if authorOk a=true then f a else 0
def hasF(f:VecM)(p:PidM):Bool:=authorOk p.author && (decide (1≤p.seq.toNat) && decide (p.seq.toNat≤f p.author))
def nextF(f:VecM)(a:UInt8):PidM:=if authorOk a=true∧f a<60000 then⟨a,UInt16.ofNat (f a+1)⟩ else noPid
theorem authorOk_yes(h1:1≤a.toNat)(h2:a.toNat≤64):authorOk a=true:=by unfold authorOk;simp [h1,h2]
theorem authorOk_lo(h1:¬ 1≤a.toNat):authorOk a=false:=by unfold authorOk;simp;omega
theorem authorOk_hi(h1:¬ a.toNat≤64):authorOk a=false:=by unfold authorOk;simp;omega
theorem num_yes(f:VecM)(h:authorOk a=true):numM f a=f a:=by unfold numM;rw [if_pos h]
theorem num_no(f:VecM)(h:authorOk a=false):numM f a=0:=by unfold numM;rw [if_neg (by simp [h])]
def NumRes(w:World)(f:VecM)(a:UInt8)(e:Ending)(w':World):Prop:=e=.returned (.tuple #[.int .u16 ((numM f a:Nat):Int),.bool (authorOk a)])∧Be w w'
attribute [local irreducible] vecL authorOk numM
theorem pnumber_any(f:VecM)(a:UInt8)(w:World):Calls Tryz.prog 108 #[vecV f,.int .u8 a.toNat] w (NumRes w f a):=by
 have hal:=a.toNat_lt;have HA:=Lh (anw w (vecL f).toArray 54);have HB:=Lh (bnew (w:=w) (.cells (vecL f).toArray 54));unfold vecV
 by_cases h1:1≤a.toNat
 rotate_left
 ·
  have d1:decide ((a.toNat:Int)<1)=true:=by simp;omega
  have HK:=Lh (authorOk_lo h1);have HN:=Lh (num_no f HK.o);go_enter Tryz.func108,Tryz.ntmps108;go_wp2;go_ret2;exact⟨(by rw [HN.o,HK.o];rfl),HB.o⟩
 have d1:decide ((a.toNat:Int)<1)=false:=by simp;omega
 by_cases h2:a.toNat≤64
 ·
  have d2:decide ((64:Int)<(a.toNat:Int))=false:=by simp;omega
  have HK:=Lh (authorOk_yes h1 h2);have HN:=Lh (num_yes f HK.o);have hc:=HA.o.cell (vecL_get f a h1 h2);have hs:=HA.o.lt;obtain⟨n,hn⟩:∃ n,a.toNat=n+1:=⟨a.toNat - 1,by omega⟩;rw [hn] at hc d1 d2 hal h1 h2 ⊢;simp only [Nat.add_sub_cancel] at hc;have HNn:=Lh hn;clear hn;go_enter Tryz.func108,Tryz.ntmps108;go_wp2;go_ret2;exact⟨(by rw [HN.o,HK.o];rfl),HB.o⟩
 have d2:decide ((64:Int)<(a.toNat:Int))=true:=by simp;omega
 have HK:=Lh (authorOk_hi h2);have HN:=Lh (num_no f HK.o);go_enter Tryz.func108,Tryz.ntmps108;go_wp2;go_ret2;exact⟨(by rw [HN.o,HK.o];rfl),HB.o⟩
theorem has_1(h:authorOk p.author=false):hasF f p=false:=by unfold hasF;rw [h];rfl
theorem has_2(h:¬ 1≤p.seq.toNat):hasF f p=false:=by unfold hasF;simp [h]
theorem has_3(h:¬ p.seq.toNat≤f p.author):hasF f p=false:=by unfold hasF;simp [h]
theorem has_4(h1:authorOk p.author=true)(h2:1≤p.seq.toNat)(h3:p.seq.toNat≤f p.author):hasF f p=true:=by unfold hasF;rw [h1];simp [h2,h3]
attribute [local irreducible] hasF
theorem phas_any(f:VecM)(p:PidM)(w:World):Calls Tryz.prog 124 #[vecV f,pidV p] w fun e w'=>e=.returned (.bool (hasF f p))∧Be w w':=by
 have HA:=Lh ((anw w (vecL f).toArray 54).alloc (.cells (cP p) 25));have HP:=Lh (an2 w (.cells (vecL f).toArray 54) (cP p) 25);have HB:=Lh ((bnew (w:=w) (.cells (vecL f).toArray 54)).alloc (by simp) (.cells (cP p) 25));unfold pidV;go_enter Tryz.func124,Tryz.ntmps124;go_upto_region 1 with fail;generalize (w.alloc (.cells (vecL f).toArray 54)).alloc (.cells (cP p) 25)=w0 at *;obtain⟨p0,p1,sp⟩:=HP.o.c2;go_wp2_with (refine wpList_load_arr rowVec rfl _ rfl _ _ HA.o rfl (vecL_len f) ?_);refine(pnumber_any f p.author _).mono ?_;rintro e w1 ⟨rfl,hb1⟩;have HB1:=Lh (bvo HB.o hb1);have HP1:=Lh (HP.o.over hb1);clear hb1 p0 p1 sp;obtain⟨p0,p1,sp⟩:=HP1.o.c2;cases hk:authorOk p.author with
 | false =>have HH:=Lh (has_1 (f:=f) hk);clear hk;go_wp2;go_ret;exact⟨rvb HH.o,HB1.o⟩
 | true =>
  by_cases h2:1≤p.seq.toNat
  ·
   have d2:decide ((1:Int)≤(p.seq.toNat:Int))=true:=(by simp;omega);have hnum:=num_yes f hk
   by_cases h3:p.seq.toNat≤f p.author
   · have d3:decide (p.seq.toNat≤numM f p.author)=true:=(by rw [hnum];simpa using h3);have HH:=Lh (has_4 hk h2 h3);clear hk hnum;go_wp2;go_ret;exact⟨rvb HH.o,HB1.o⟩
   · have d3:decide (p.seq.toNat≤numM f p.author)=false:=(by rw [hnum];simpa using h3);have HH:=Lh (has_3 h3);clear hk hnum;go_wp2;go_ret;exact⟨rvb HH.o,HB1.o⟩
  · have d2:decide ((1:Int)≤(p.seq.toNat:Int))=false:=(by simp;omega);have HH:=Lh (has_2 (f:=f) h2);clear hk;go_wp2;go_ret;exact⟨rvb HH.o,HB1.o⟩
end Go.Proofs.YtjccmcgglfncdaaGreatDoor
namespace Go.Proofs.YtjccmcgglfncdaaGreatDoor
open Go Go.RowKit
section
variable{a:UInt8}{f:VecM}
theorem nextF_yes(h1:authorOk a=true)(h2:f a<60000):nextF f a=⟨a,UInt16.ofNat (f a+1)⟩:=by unfold nextF;rw [if_pos ⟨h1,h2⟩]
theorem nextF_no1(h1:authorOk a=false):nextF f a=noPid:=by unfold nextF;rw [if_neg (fun h=>by rw [h1] at h;exact absurd h.1 (by decide))]
theorem nextF_no2(h2:¬ f a<60000):nextF f a=noPid:=by unfold nextF;rw [if_neg (fun h=>h2 h.2)]
theorem authorOk_pos(h:authorOk a=true):1≤a.toNat∧a.toNat≤64:=by unfold authorOk at h;simp at h;exact h
theorem pidV_next(h1:authorOk a=true)(h2:f a<60000):pidV (nextF f a)=.agg #[.int .u8 a.toNat,.int .u16 ((f a:Int)+1)]:=by
 rw [nextF_yes h1 h2];unfold pidV;have:((UInt16.ofNat (f a+1)).toNat:Int)=(f a:Int)+1:=by simp;omega
 rw [this]
attribute [local irreducible] vecL authorOk numM nextF
theorem pnext_any(f:VecM)(hf:∀ a,f a≤60000)(a:UInt8)(w:World):Calls Tryz.prog 49 #[vecV f,.int .u8 a.toNat] w fun e w'=>e=.returned (pidV (nextF f a))∧Be w w':=by
 have hfa:=hf a;have HA:=Lh ((anw w (vecL f).toArray 54).alloc (.cells #[.int .u8 0,.int .u16 0] 25));have HR:=Lh (an2 w (.cells (vecL f).toArray 54) #[.int .u8 0,.int .u16 0] 25);have HB:=Lh ((bnew (w:=w) (.cells (vecL f).toArray 54)).alloc (by simp) (.cells #[.int .u8 0,.int .u16 0] 25));clear hf;go_enter Tryz.func49,Tryz.ntmps49;go_upto_region 1 with fail;generalize (w.alloc (.cells (vecL f).toArray 54)).alloc (.cells #[.int .u8 0,.int .u16 0] 25)=w0 at *;go_wp2_with (refine wpList_load_arr rowVec rfl _ rfl _ _ HA.o rfl (vecL_len f) ?_);refine(pnumber_any f a _).mono ?_;rintro e w1 ⟨rfl,hb1⟩;have HB1:=Lh (bvo HB.o hb1);have HR1:=Lh (HR.o.over hb1);clear hb1;obtain⟨r0,r1,_⟩:=HR1.o.c2;have f0:=HR1.o.free 0;have f1:=HR1.o.free 1;have sr:=HR1.o.lt;cases hk:authorOk a with
 | false =>have HN:=Lh (nextF_no1 (f:=f) hk);have HF:=Lh ((HR1.o.set 0 (.int .u8 0)).set 1 (.int .u16 0));have HBF:=Lh ((HB1.o.setCell (p:=⟨w.heap.size+1,0,none⟩) (by simp) (.int .u8 0)).setCell (p:=⟨w.heap.size+1,1,none⟩) (by simp) (.int .u16 0));clear hk;go_wp2_with fail;exact bodyPost_ret (v:=.agg #[.int .u8 0,.int .u16 0]) (results_arr rowPid rfl HF.o rfl rfl) rfl ⟨by rw [HN.o];rfl,HBF.o⟩
 | true =>
  have hnum:=num_yes f hk
  by_cases h2:f a<60000
  · have d2:decide ((60000:Int)≤(numM f a:Int))=false:=(by rw [hnum];simp;omega);have hfi:(f a:Int)<60000:=(by omega);have hf0:(0:Int)≤(f a:Int):=(by omega);have HN:=Lh (pidV_next hk h2);have HF:=Lh ((HR1.o.set 0 (.int .u8 a.toNat)).set 1 (.int .u16 ((f a:Int)+1)));have HBF:=Lh ((HB1.o.setCell (p:=⟨w.heap.size+1,0,none⟩) (by simp) (.int .u8 a.toNat)).setCell (p:=⟨w.heap.size+1,1,none⟩) (by simp) (.int .u16 ((f a:Int)+1)));have HNu:=Lh hnum;rw [hnum] at d2 ⊢;clear hk hnum hfa h2;go_wp2_with fail;exact bodyPost_ret (v:=.agg #[.int .u8 a.toNat,.int .u16 ((f a:Int)+1)]) (results_arr rowPid rfl HF.o rfl rfl) rfl ⟨by rw [HN.o],HBF.o⟩
  · have d2:decide ((60000:Int)≤(numM f a:Int))=true:=(by rw [hnum];simp;omega);have HN:=Lh (nextF_no2 h2);have HF:=Lh ((HR1.o.set 0 (.int .u8 0)).set 1 (.int .u16 0));have HBF:=Lh ((HB1.o.setCell (p:=⟨w.heap.size+1,0,none⟩) (by simp) (.int .u8 0)).setCell (p:=⟨w.heap.size+1,1,none⟩) (by simp) (.int .u16 0));rw [hnum] at d2 ⊢;clear hk hnum hfa h2;go_wp2_with fail;exact bodyPost_ret (v:=.agg #[.int .u8 0,.int .u16 0]) (results_arr rowPid rfl HF.o rfl rfl) rfl ⟨by rw [HN.o];rfl,HBF.o⟩
end
theorem rasl{P:Program}{w:World}{ty:TypeId}{size:Nat}(T:RowT P ty size){fn:Func}{p q:Tmp}(h:fn.results=#[.cell p ty,.tmp q]){tmps:Array Value}{g:Nat}{cs:List Value}(hA:Arr w g cs)(hp:tmps.getD p undef=.pointer (some ⟨g,0,none⟩))(hl:cs.length=size){u:Value}(hq:tmps.getD q undef=u) :
  (results fn tmps).run P w=.ok (.tuple #[.agg cs.toArray,u]) w:=by
 obtain⟨d,i,h1,h2,h3,h4⟩:=T.out;obtain⟨e,hg⟩:=hA;subst hq;have hp':tmps[p]?.getD undef=.pointer (some ⟨g,0,none⟩):=by simpa using hp
 simp [results,h,hp',asAddr,run_loadVar_row w g e ty cs.toArray (0,0) d hg h1 (by cases d <;> simp_all [isRowD]) (by rw [h3];simp [h4,hl])]
def PutOk(f:VecM)(p:PidM)(w:World)(e:Ending)(w':World):Prop:=e=.returned (.tuple #[vecV (setV f p.author p.seq.toNat),.bool true])∧Be w w'
attribute [local irreducible] vecL authorOk numM nextF
theorem pput_any(f:VecM)(hf:∀ a,f a≤60000)(p:PidM)(w:World)(ha:authorOk p.author=true)(hp:nextF f p.author=p):Calls Tryz.prog 64 #[vecV f,pidV p] w (PutOk f p w):=by
 have hpa:=authorOk_pos ha;have HF:=Lh hf;have HP0:=Lh hp;have hne:¬ p=noPid:=fun e=>by rw [e] at hpa;exact absurd hpa.1 (by decide)
 have e1:∀ w,(binOp .eql 25 (.agg (cP p)) (.agg #[.int .u8 0,.int .u16 0])).run Tryz.prog w=.ok (.bool false) w:=eql_pid p noPid false (by simp [hne]);have e2:=neq_pid p p false (by simp);unfold pidV at e2;clear hne;have gd:=fun p q xs ys w=>guard_pid .eql p q xs ys w;have gd2:=fun p q xs ys w=>guard_pid .neq p q xs ys w;clear hf hp;unfold pidV;go_enter Tryz.func64,Tryz.ntmps64;go_upto_region 1 with fail;refine code_gen (fun w0=>∃ zs:List Value,zs.length=64∧Arr w0 (w.heap.size+1+1) zs∧Arr w0 w.heap.size (vecL f)∧Arr w0 (w.heap.size+1) [.int .u8 p.author.toNat,.int .u16 p.seq.toNat]∧Be w w0)
  (by
   refine⟨_,?_,arr_new3 w (.cells (vecL f).toArray 54) (.cells (cP p) 25) _ _,((anw w (vecL f).toArray _).alloc _).alloc _,(an2 w (.cells (vecL f).toArray 54) _ _).alloc _,((bnew (w:=w) _).alloc (by simp) _).alloc (by simp;omega) _⟩
   rfl) ?_
 rintro w0 ⟨zs,hzl,hR,hA,hP,hB⟩;have HR:=Lh hR;have HA:=Lh hA;have HP:=Lh hP;have HB:=Lh hB;clear hR hA hP hB;obtain⟨p0,p1,sp⟩:=HP.o.c2;refine wlo 11 fun hcur=>?_;repeat(first|(refine lxs rfl rfl ?_;simp only [Act.put,Sib,Scs,Scz])|((with_reducible refine lex_load_row rowVec rfl _ rfl rfl rfl (fun w' hw'=>HA.o.over (isOver_below hw')) (vecL_len f) ?_);simp only [Act.put,Sib,Scs,Scz])|(refine lxo rfl ?_;go_big_quiet_step (fail);refine wpQuiet_nil ?_)|(refine lxl rfl ?_;go_wp2_with (first|(go_at_call 49;(with_reducible refine(pnext_any f HF.o p.author _).mono ?_);rintro e wA ⟨rfl,hb⟩;rw [HP0.o];have hcur:=bvo hcur hb));refine⟨iov hcur,?_⟩))
 refine lxe ?_;have HB1:=Lh (bvo HB.o hcur);have HA1:=Lh (HA.o.over hcur);have HP1:=Lh (HP.o.over hcur);have HR1:=Lh (HR.o.over hcur);have HVS:=Lh (vecL_set f p.author p.seq.toNat hpa.1 hpa.2);have HVG:=Lh (vecL_get f p.author hpa.1 hpa.2);clear hcur p0 p1 sp;obtain⟨p0,p1,sp⟩:=HP1.o.c2;have c0:=HA1.o.cell HVG.o;have f0:=HA1.o.free (p.author.toNat - 1);have HA2:Hid (Arr (wA.setCell ⟨w.heap.size,p.author.toNat - 1,none⟩ (.int .u16 p.seq.toNat)) w.heap.size (vecL (setV f p.author p.seq.toNat))):=by have:=HA1.o.set (p.author.toNat - 1) (.int .u16 p.seq.toNat);rw [HVS.o] at this;exact this
 have HR2:Hid (Arr (wA.setCell ⟨w.heap.size,p.author.toNat - 1,none⟩ (.int .u16 p.seq.toNat)) (w.heap.size+1+1) zs):=HR1.o.set_other (a:=⟨w.heap.size,p.author.toNat - 1,none⟩) (by simp;omega) _;have HB2:=Lh (HB1.o.setCell (p:=⟨w.heap.size,p.author.toNat - 1,none⟩) (Nat.le_refl _) (.int .u16 p.seq.toNat));obtain⟨n,hn⟩:∃ n,p.author.toNat=n+1:=⟨p.author.toNat - 1,by omega⟩;have HNn:=Lh hn;have hn64:n<64:=by omega
 rw [hn] at p0;rw [hn,Nat.add_sub_cancel] at c0 f0 HA2 HR2 HB2;have sA:=HA1.o.lt;clear hn;go_upto_region 4 with fail;generalize wA.setCell ⟨w.heap.size,n,none⟩ (.int .u16 p.seq.toNat)=w3 at *;clear p0 p1 sp c0 f0;go_wp2_with (first|(refine wpList_load_arr rowVec rfl _ rfl _ _ HA2.o rfl (vecL_len _) ?_)|(refine wpList_put_arr rowVec rfl _ _ rfl _ _ _ HR2.o rfl rfl hzl (vecL_len _) (vecL_one _) ?_;intro w4 HR4 _ hb4 hs4));exact bodyPost_ret (v:=.tuple #[.agg (vecL (setV f p.author p.seq.toNat)).toArray,.bool true]) (rasl rowVec rfl HR4 rfl (vecL_len _) rfl) rfl ⟨rfl,hb4 _ _ (by show w.heap.size≤w.heap.size+1+1;omega) HB2.o⟩
theorem rvof_any(f:VecM)(a:UInt8)(w:World)(hfa:f a≤60000):Calls Tryz.prog 62 #[vecV f,.int .u8 a.toNat] w fun e w'=>e=.returned (.int .i64 ((numM f a:Nat):Int))∧Be w w':=by
 have hal:=a.toNat_lt;have hfi:(f a:Int)≤60000:=by omega
 have hf0:(0:Int)≤(f a:Int):=by omega
 have HA:=Lh (anw w (vecL f).toArray 54);have HB:=Lh (bnew (w:=w) (.cells (vecL f).toArray 54));unfold vecV
 by_cases h1:1≤a.toNat
 rotate_left
 ·
  have d1:decide ((a.toNat:Int)<1)=true:=by simp;omega
  have HN:=Lh (num_no f (authorOk_lo h1));go_enter Tryz.func62,Tryz.ntmps62;go_wp2;go_ret;exact⟨ret_int (by rw [HN.o];rfl),HB.o⟩
 have d1:decide ((a.toNat:Int)<1)=false:=by simp;omega
 by_cases h2:a.toNat≤64
 ·
  have d2:decide ((64:Int)<(a.toNat:Int))=false:=by simp;omega
  have HN:=Lh (num_yes f (authorOk_yes h1 h2));have hc:=HA.o.cell (vecL_get f a h1 h2);have hs:=HA.o.lt;obtain⟨n,hn⟩:∃ n,a.toNat=n+1:=⟨a.toNat - 1,by omega⟩;rw [hn] at hc d1 d2 hal h1 h2 ⊢;simp only [Nat.add_sub_cancel] at hc;have HNn:=Lh hn;clear hn;go_enter Tryz.func62,Tryz.ntmps62;go_wp2;go_ret;exact⟨ret_int (by rw [HN.o]),HB.o⟩
 have d2:decide ((64:Int)<(a.toNat:Int))=true:=by simp;omega
 have HN:=Lh (num_no f (authorOk_hi h2));go_enter Tryz.func62,Tryz.ntmps62;go_wp2;go_ret;exact⟨ret_int (by rw [HN.o];rfl),HB.o⟩
theorem rnext_any(f:VecM)(hf:∀ a,f a≤60000)(a:UInt8)(w:World):Calls Tryz.prog 24 #[vecV f,.int .u8 a.toNat] w fun e w'=>e=.returned (pidV (nextF f a))∧Be w w':=by
 have hfa:=hf a;have hal:=a.toNat_lt;have HA:=Lh ((anw w (vecL f).toArray 54).alloc (.cells #[.int .u8 0,.int .u16 0] 25));have HR:=Lh (an2 w (.cells (vecL f).toArray 54) #[.int .u8 0,.int .u16 0] 25);have HB:=Lh ((bnew (w:=w) (.cells (vecL f).toArray 54)).alloc (by simp) (.cells #[.int .u8 0,.int .u16 0] 25));clear hf;go_enter Tryz.func24,Tryz.ntmps24;go_upto_region 1 with fail;generalize (w.alloc (.cells (vecL f).toArray 54)).alloc (.cells #[.int .u8 0,.int .u16 0] 25)=w0 at *
 by_cases h1:1≤a.toNat
 rotate_left
 ·
  have d1:decide ((a.toNat:Int)<1)=true:=by simp;omega
  have HN:=Lh (nextF_no1 (f:=f) (authorOk_lo h1));obtain⟨r0,r1,_⟩:=HR.o.c2;have f0:=HR.o.free 0;have f1:=HR.o.free 1;have sr:=HR.o.lt;have HF:=Lh ((HR.o.set 0 (.int .u8 0)).set 1 (.int .u16 0));have HBF:=Lh ((HB.o.setCell (p:=⟨w.heap.size+1,0,none⟩) (by simp) (.int .u8 0)).setCell (p:=⟨w.heap.size+1,1,none⟩) (by simp) (.int .u16 0));clear hfa;go_wp2_with fail;exact bodyPost_ret (v:=.agg #[.int .u8 0,.int .u16 0]) (results_arr rowPid rfl HF.o rfl rfl) rfl ⟨by rw [HN.o];rfl,HBF.o⟩
 have d1:decide ((a.toNat:Int)<1)=false:=by simp;omega
 by_cases h2:a.toNat≤64
 rotate_left
 ·
  have d2:decide ((64:Int)<(a.toNat:Int))=true:=by simp;omega
  have HN:=Lh (nextF_no1 (f:=f) (authorOk_hi h2));obtain⟨r0,r1,_⟩:=HR.o.c2;have f0:=HR.o.free 0;have f1:=HR.o.free 1;have sr:=HR.o.lt;have HF:=Lh ((HR.o.set 0 (.int .u8 0)).set 1 (.int .u16 0));have HBF:=Lh ((HB.o.setCell (p:=⟨w.heap.size+1,0,none⟩) (by simp) (.int .u8 0)).setCell (p:=⟨w.heap.size+1,1,none⟩) (by simp) (.int .u16 0));clear hfa;go_wp2_with fail;exact bodyPost_ret (v:=.agg #[.int .u8 0,.int .u16 0]) (results_arr rowPid rfl HF.o rfl rfl) rfl ⟨by rw [HN.o];rfl,HBF.o⟩
 have d2:decide ((64:Int)<(a.toNat:Int))=false:=by simp;omega
 have hk:=authorOk_yes h1 h2;have HK:=Lh hk;have hnum:=num_yes f hk;go_wp2_with (with_reducible refine wpList_load_arrG rowVec rfl _ rfl _ _ HA.o rfl (vecL_len f) ?_);refine(rvof_any f a _ hfa).mono ?_;rintro e w1 ⟨rfl,hb1⟩;have HB1:=Lh (bvo HB.o hb1);have HR1:=Lh (HR.o.over hb1);have HA1:=Lh (HA.o.over hb1);clear hb1;rw [hnum]
 by_cases h3:f a<60000
 ·
  have d3:decide ((60000:Int)≤(f a:Int))=false:=by simp;omega
  have hfi:(f a:Int)<60000:=by omega
  have hf0:(0:Int)≤(f a:Int):=by omega
  have HN:=Lh (pidV_next hk h3);clear hk h3;go_wp2_with (refine wpList_load_arr rowVec rfl _ rfl _ _ HA1.o rfl (vecL_len f) ?_);refine(rvof_any f a _ hfa).mono ?_;rintro e w2 ⟨rfl,hb2⟩;rw [hnum];have HB2:=Lh (bvo HB1.o hb2);have HR2:=Lh (HR1.o.over hb2);clear hb2 hnum;obtain⟨r0,r1,_⟩:=HR2.o.c2;have f0:=HR2.o.free 0;have f1:=HR2.o.free 1;have sr:=HR2.o.lt;have HF:=Lh ((HR2.o.set 0 (.int .u8 a.toNat)).set 1 (.int .u16 ((f a:Int)+1)));have HBF:=Lh ((HB2.o.setCell (p:=⟨w.heap.size+1,0,none⟩) (by simp) (.int .u8 a.toNat)).setCell (p:=⟨w.heap.size+1,1,none⟩) (by simp) (.int .u16 ((f a:Int)+1)));go_wp2_with fail;exact bodyPost_ret (v:=.agg #[.int .u8 a.toNat,.int .u16 ((f a:Int)+1)]) (results_arr rowPid rfl HF.o rfl rfl) rfl ⟨by rw [HN.o],HBF.o⟩
 have d3:decide ((60000:Int)≤(f a:Int))=true:=by simp;omega
 have HN:=Lh (nextF_no2 h3);obtain⟨r0,r1,_⟩:=HR1.o.c2;have f0:=HR1.o.free 0;have f1:=HR1.o.free 1;have sr:=HR1.o.lt;have HF:=Lh ((HR1.o.set 0 (.int .u8 0)).set 1 (.int .u16 0));have HBF:=Lh ((HB1.o.setCell (p:=⟨w.heap.size+1,0,none⟩) (by simp) (.int .u8 0)).setCell (p:=⟨w.heap.size+1,1,none⟩) (by simp) (.int .u16 0));clear hk hfa h3 hnum;go_wp2_with fail;exact bodyPost_ret (v:=.agg #[.int .u8 0,.int .u16 0]) (results_arr rowPid rfl HF.o rfl rfl) rfl ⟨by rw [HN.o];rfl,HBF.o⟩
end Go.Proofs.YtjccmcgglfncdaaGreatDoor
