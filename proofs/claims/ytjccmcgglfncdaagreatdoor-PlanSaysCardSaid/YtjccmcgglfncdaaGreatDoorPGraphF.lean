/- What is proved: PlanSays, for every input; of the listed tables the walk needs the powers of ten. -/
import Derived.Test.YtjccmcgglfncdaaGreatDoorPSuits
import Derived.Test.YtjccmcgglfncdaaGreatDoorPKeys
import Derived.Test.YtjccmcgglfncdaaGreatDoorPEdiQ
set_option linter.unusedVariables false
set_option linter.unusedSimpArgs false
set_option maxRecDepth 100000
set_option maxHeartbeats 40000000
namespace Go.Proofs.YtjccmcgglfncdaaGreatDoor
open Go Go.RowKit
section
variable{ops:List OpM}{deps:List PidM}{i:Nat}{o:OpM}{id:PidM}
def oneP(id:PidM)(ops:List OpM)(i:Nat)(o:OpM):Bool:=opGood id i o && (!laterB id o && ((decide (o.kind=5) || suitsM id ops o) && !(decide (o∈ops.take i) && !makesB o.kind)))
def loopP(id:PidM)(ops:List OpM):Bool:=(List.range ops.length).all fun i=>match ops[i]? with|some o=>oneP id ops i o|none=>false
def goodQ(id:PidM)(deps:List PidM)(ops:List OpM):Bool:=goodPid id && (decide (1≤ops.length) && (decide (ops.length≤200) && (decide (deps=depsM id ops) && loopP id ops)))
def seenF(ops:List OpM)(o:OpM):Option Int:=if o∈ops then some ((ops.count o:Nat):Int) else none
theorem seen_nil:seenF []=fun _=>none:=by funext o;simp [seenF]
theorem seen_get(ops:List OpM)(o:OpM):(seenF ops o).getD 0=((ops.count o:Nat):Int):=by
 unfold seenF;split
 · rfl
 rename_i h;rw [List.count_eq_zero.2 h];rfl
theorem seen_step(ops:List OpM)(o:OpM):updM (seenF ops) o ((seenF ops o).getD 0+1)=seenF (ops++[o]):=by
 funext x;rw [seen_get];unfold updM seenF
 by_cases h:x=o
 · subst h;rw [if_pos rfl,if_pos (by simp),List.count_append];simp
 rw [if_neg h,List.count_append];have:List.count x [o]=0:=List.count_eq_zero.2 (by simpa using h);rw [this];simp [h]
theorem seen_many(ops:List OpM)(o:OpM):decide (1<(ops.count o:Int)+1)=decide (o∈ops):=by
 rw [decide_eq_decide];constructor
 · intro h;exact List.count_pos_iff.1 (by omega)
 intro h;have:=List.count_pos_iff.2 h;omega
theorem loop_no(ho:ops[i]? = some o)(h:oneP id ops i o=false):loopP id ops=false:=by unfold loopP;refine List.all_eq_false.2 ⟨i,List.mem_range.2 (List.getElem?_eq_some_iff.1 ho).1,?_⟩;rw [ho];simp [h]
theorem loop_yes(h:∀ i o,ops[i]? = some o→oneP id ops i o=true):loopP id ops=true:=by unfold loopP;refine List.all_eq_true.2 fun i hi => ?_;obtain⟨o,ho⟩:=gol (List.mem_range.1 hi);rw [ho];exact h i o ho
theorem one_a(h:opGood id i o=false):oneP id ops i o=false:=by unfold oneP;rw [h];rfl
theorem one_b(h:laterB id o=true):oneP id ops i o=false:=by unfold oneP;rw [h];simp
theorem one_c(h5:¬ o.kind=5)(h:suitsM id ops o=false):oneP id ops i o=false:=by unfold oneP;rw [h];simp [h5]
theorem one_d(h:o∈ops.take i)(hm:makesB o.kind=false):oneP id ops i o=false:=by unfold oneP;rw [hm];simp [h]
theorem one_e(ha:opGood id i o=true)(hb:laterB id o=false)(hc:o.kind=5∨suitsM id ops o=true)(hd:¬ o∈ops.take i∨makesB o.kind=true):oneP id ops i o=true:=by
 have e1:(decide (o.kind=5) || suitsM id ops o)=true:=by rcases hc with h|h <;> simp [h]
 have e2:(decide (o∈ops.take i) && !makesB o.kind)=false:=by rcases hd with h|h <;> simp [h]
 unfold oneP;rw [ha,hb,e1,e2];rfl
theorem own_ref(h:opGood id i o=true)(ho:ops[i]? = some o):∀ v∈refsM o,v.pid=id→v.n.toNat<ops.length:=fun v hv e =>
 Nat.lt_trans ((opGood_refs h hv).2 e) (List.getElem?_eq_some_iff.1 ho).1
theorem TMap.ne_arr{P:Program}{k:TypeId}{κ ν:Type}{kenc:κ→Value}{ok:κ→Prop}{venc:ν→Value}{w:World}{b n:Nat}{f:κ→Option ν}(h:TMap P k kenc ok venc w b n f){g:Nat}{cs:List Value}(hA:Arr w g cs):g≠b:=by obtain⟨D,⟨es,clock,h1,_⟩,_⟩:=h;obtain⟨e,h2⟩:=hA;rintro rfl;rw [h1] at h2;cases h2
theorem zero_int(u:World):(zeroValue 3).run Tryz.prog u=.ok (.int .i64 0) u:=by kernel_rfl
theorem int_inj(x y:Int)(h:Value.int .i64 x=.int .i64 y):x=y:=by cases h;rfl
theorem pg_next(h:∀ j o,j<i→ops[j]? = some o→oneP id ops j o=true)(ho:ops[i]? = some o)(hn:oneP id ops i o=true):∀ j o,j<i+1→ops[j]? = some o→oneP id ops j o=true:=by
 intro j o' hj hj'
 by_cases e:j=i
 · subst e;rw [ho] at hj';cases hj';exact hn
 exact h j o' (by omega) hj'
def PgRel(w0:World)(id:PidM)(ops:List OpM)(bm:Nat)(v:Value)(wr:World):Prop:=
 ∃ i:Nat,i≤ops.length∧v=.int .i64 i∧Hid (TMap Tryz.prog 76 opV okOp (Value.int .i64) wr bm i (seenF (ops.take i)))∧Hid (∀ j o,j<i→ops[j]? = some o→oneP id ops j o=true)∧Be w0 wr
theorem goodQ_a(h:goodPid id=false):goodQ id deps ops=false:=by unfold goodQ;rw [h];rfl
theorem goodQ_b(h:¬ 1≤ops.length):goodQ id deps ops=false:=by unfold goodQ;simp;omega
theorem goodQ_c(h:¬ ops.length≤200):goodQ id deps ops=false:=by unfold goodQ;simp;omega
theorem goodQ_d(h:¬ deps=depsM id ops):goodQ id deps ops=false:=by unfold goodQ;simp [h]
theorem goodQ_e(h1:goodPid id=true)(h2:1≤ops.length)(h3:ops.length≤200)(h4:deps=depsM id ops):goodQ id deps ops=loopP id ops:=by unfold goodQ;rw [h1];simp [h2,h3,h4]
attribute [local irreducible] refsM opGood laterB suitsM oneP loopP goodQ goodPid depsM seenF makesB
theorem pgood_any(id:PidM)(dv ov:Value)(deps:List PidM)(ops:List OpM)(w:World)(hd:GRow encPid 2 w dv deps)(hv:GRow encOp 8 w ov ops)(hl:ops.length≤40000)(hz:∀ o∈ops,o.text.size≤maxLen) :
  Calls Tryz.prog 111 #[patV id dv ov] w fun e w'=>e=.returned (.bool (goodQ id deps ops))∧Be w w':=by
 have HV0:=Lh hv;have HD0:=Lh hd;have HZ:=Lh hz;obtain⟨a,cap,rfl,h1,h2,hc⟩:=hv.at encOp_len;obtain⟨ad,capd,rfl,h1d,h2d,_⟩:=hd.at encPid_len;unfold maxLen at h2 h2d;have HC:=Lh hc;have HP:=Lh (anw w #[.int .u8 id.author.toNat,.int .u16 id.seq.toNat,.slice ad deps.length capd,.slice a ops.length cap] 44);have HB:=Lh (bnew (w:=w) (.cells #[.int .u8 id.author.toNat,.int .u16 id.seq.toNat,.slice ad deps.length capd,.slice a ops.length cap] 44));clear hv hd hc hz;unfold patV;go_enter Tryz.func111,Tryz.ntmps111;go_upto_region 1 with fail;generalize w.alloc (.cells #[.int .u8 id.author.toNat,.int .u16 id.seq.toNat,.slice ad deps.length capd,.slice a ops.length cap] 44)=w0 at *;have HV:=Lh (HV0.o.over HB.o);have HD:=Lh (HD0.o.over HB.o);obtain⟨p0,p1,p2,p3,sp⟩:=HP.o.c4;cases hg:goodPid id with
 | false =>
  have HQ:=Lh (goodQ_a (deps:=deps) (ops:=ops) hg);have HG:=Lh hg;clear hg;refine wlo 27 fun hcur=>?_;repeat(first|refine lxq ?_|(refine lxl rfl ?_;go_wp2_with (first|(go_at_call 177;(with_reducible refine(pgoodPid_any id _).mono ?_);rintro e w' ⟨rfl,hb⟩;rw [HG.o];have hcur:=bvo hcur hb));refine⟨iov hcur,?_⟩))
  refine lxe ?_;have HB3:=Lh (bvo HB.o hcur);clear hcur;go_wp2;go_ret;exact⟨rvb HQ.o,HB3.o⟩
 | true =>
  have HG:=Lh hg;clear hg
  by_cases g1:1≤ops.length
  ·
   have d1:decide ((ops.length:Int)<1)=false:=by simp;omega
   by_cases g2:ops.length≤200
   ·
    have d2:decide ((200:Int)<(ops.length:Int))=false:=by simp;omega
    by_cases g3:deps=depsM id ops
    ·
     have HE:Hid (decide (deps=depsM id ops)=true):=(by show _=_;simp [g3]);have HQ:=Lh (goodQ_e HG.o g1 g2 g3);clear g3;refine wlo 27 fun hcur=>?_;(repeat(first|refine lxq ?_|(refine lxl rfl ?_;go_wp2_with (first|(go_at_call 177;(with_reducible refine(pgoodPid_any id _).mono ?_);rintro e w' ⟨rfl,hb⟩;rw [HG.o];have hcur:=bvo hcur hb)|(go_at_call 109;(with_reducible refine(pdeps_any id _ ops _ (HV.o.over hcur) hl).mono ?_);rintro e w' ⟨dv2,rfl,hd2,hb⟩;have HD2:=Lh hd2.row;replace hcur:=bvo hcur hb;clear hb hd2)|(go_at_call 178;(with_reducible refine(equalPid_any _ _ deps (depsM id ops) _ (HD.o.over hcur) HD2.o).mono ?_);rintro e wA ⟨rfl,hb⟩;rw [HE.o];have hcur:=bvo hcur hb));refine⟨iov hcur,?_⟩)));refine lxe ?_;have HA0:=Lh hcur;have hAs:=hcur.size;have hmm:=@run_makeMap Tryz.prog;have HPA:=Lh (HP.o.over hcur);clear hcur p0 p1 p2 p3 sp;obtain⟨p0,p1,p2,p3,sp⟩:=HPA.o.c4;go_wp2_with fail;clear p0 p1 p2 p3 sp;go_loopw [37] (fun v37 wr=>PgRel w0 id ops wA.heap.size v37 wr) (fun v37 _=>ops.length - (intOf v37).toNat)
     case atStart=>exact⟨0,by omega,rfl,(by show TMap _ _ _ _ _ _ _ _ _;rw [List.take_zero,seen_nil];exact TMap.made wA),fun j o hj=>absurd hj (Nat.not_lt_zero _),HA0.o.alloc hAs _⟩
     case round =>
      obtain⟨i,hi,rfl,HM,HK,hbl⟩:=hrel
      by_cases hlt:i<ops.length
      ·
       obtain⟨b,off,rfl,sb,hcb⟩:=HC.o.resolve_left (by omega);obtain⟨o,ho⟩:=gol hlt;have HCo:=Lh (hcb i o ho wr (bvo HB.o hbl));have HOo:=Lh ho;have hzo:o.text.size≤maxLen:=HZ.o o (List.mem_of_getElem? ho);have HZo:=Lh hzo;have HPr:=Lh (HP.o.over hbl);obtain⟨o0,o1,o2,o3,o4,o5,o6,o7,so⟩:=rc8 HCo.o;clear hcb ho hzo;have HOb:Hid (Arr (wr.alloc (.cells (cO o) 76)) wr.heap.size [.int .u8 o.kind.toNat,.int .u8 o.at'.pid.author.toNat,.int .u16 o.at'.pid.seq.toNat,.int .u8 o.at'.n.toNat,.int .u8 o.to.pid.author.toNat,.int .u16 o.to.pid.seq.toNat,.int .u8 o.to.n.toNat,.string o.text]):=anw _ _ _;have HMb:=Lh (HM.o.alloc (.cells (cO o) 76));have HBb:=Lh (bvo hbl (bnew (w:=wr) (.cells (cO o) 76)));go_upto_region 7 with fail;generalize wr.alloc (.cells (cO o) 76)=wo at *;clear so o0 o1 o2 o3 o4 o5 o6 o7;have HPo:=Lh (HP.o.over HBb.o);obtain⟨o0,o1,o2,o3,o4,o5,o6,o7,so⟩:=HOb.o.c8;obtain⟨p0,p1,p2,p3,sp⟩:=HPo.o.c4;go_wp2_with fail;refine(pogood_any id i o _ (by omega) HZo.o).mono ?_;rintro e w1 ⟨rfl,hb1⟩;have HB1:=Lh (bvo HBb.o hb1);have HO1:=Lh (HOb.o.over hb1);have HM1:=Lh (HMb.o.over hb1);have HP1:=Lh (HP.o.over HB1.o);clear o0 o1 o2 o3 o4 o5 o6 o7 so p0 p1 p2 p3 sp hb1;cases hg1:opGood id i o with
       | false =>have HN:=Lh (loop_no HOo.o (one_a hg1));clear hg1;go_wp2;go_ret;exact⟨rvl (congrArg Value.bool (HQ.o.trans HN.o).symm),bvo HB.o HB1.o⟩
       | true =>
        have HG1:=Lh hg1;clear hg1;obtain⟨o0,o1,o2,o3,o4,o5,o6,o7,so⟩:=HO1.o.c8;obtain⟨p0,p1,p2,p3,sp⟩:=HP1.o.c4;go_wp2_with fail;refine(plater_any id o _).mono ?_;rintro e w2 ⟨rfl,hb2⟩;have HB2:=Lh (bvo HB1.o hb2);have HO2:=Lh (HO1.o.over hb2);have HM2:=Lh (HM1.o.over hb2);have HP2:=Lh (HP.o.over HB2.o);clear o0 o1 o2 o3 o4 o5 o6 o7 so p0 p1 p2 p3 sp hb2;cases hl1:laterB id o with
        | true =>have HN:=Lh (loop_no HOo.o (one_b (i:=i) (ops:=ops) hl1));clear hl1;go_wp2;go_ret;exact⟨rvl (congrArg Value.bool (HQ.o.trans HN.o).symm),bvo HB.o HB2.o⟩
        | false =>
         have HL1:=Lh hl1;clear hl1;obtain⟨o0,o1,o2,o3,o4,o5,o6,o7,so⟩:=HO2.o.c8;obtain⟨p0,p1,p2,p3,sp⟩:=HP2.o.c4
         by_cases h5:o.kind.toNat=5
         ·
          have e5:((o.kind.toNat:Int) != 5)=false:=(by simp;omega);have HK5:Hid (o.kind=5∨suitsM id ops o=true):=.inl ((u8_nat _ 5 (by omega)).2 h5);clear h5;go_upto_region 9 with fail;obtain⟨v0,st,wa,e1,g1,s1,lk1,hst⟩:=TMap.entry keysOp lawOp int_inj HM2.o.drew Tryz.underlying244 (zv:=0) zero_int (by unfold maxLen;omega) o HZo.o;obtain⟨wb,e2,m4,g4,s4⟩:=hst wa ((seenF (ops.take i) o).getD 0+1) rfl;have lk0:=TMap.lookup keysOp int_inj HM2.o.drew Tryz.underlying244 (zv:=0) (zero_int _) o HZo.o;have lk4:=TMap.lookup keysOp int_inj m4 Tryz.underlying244 (zv:=0) (zero_int _) o HZo.o;have hup:(updM (seenF (ops.take i)) o ((seenF (ops.take i) o).getD 0+1) o).getD 0=(seenF (ops.take i) o).getD 0+1:=(by simp [updM]);rw [hup] at lk4;rw [seen_step,← tsg HOo.o] at m4;rw [seen_get] at lk0 lk1 lk4 e2;have hcnt:(ops.take i).count o≤i:=Nat.le_trans List.count_le_length (List.length_take_le _ _);have HSM:=Lh (seen_many (ops.take i) o);generalize (ops.take i).count o=c at *;unfold opV at e1 lk0 lk1 lk4;have HMb4:=Lh m4;have HG4:Hid (World.grownBy w2 wb (some wA.heap.size)):=gtr (gtr (grown_drew (World.grownBy.refl w2 _)) g1) g4;have hne:=TMap.ne_arr HM2.o HO2.o;have HO4:=Lh (HO2.o.grown HG4.o (by simp;exact hne));have HB4:=Lh (HB2.o.grown HG4.o HB2.o.size fun k hk=>by cases hk;exact hAs);clear hst hup m4 g1 g4;(try clear p0 p1 p2 p3 sp);go_region;clear lk0 lk1 e1 e2 o0 o1 o2 o3 o4 o5 o6 o7 so;obtain⟨o0,o1,o2,o3,o4,o5,o6,o7,so⟩:=HO4.o.c8
          by_cases hmem:o∈ops.take i
          ·
           have d4:decide (1<(c:Int)+1)=true:=(by rw [HSM.o];simp [hmem]);cases hmk:makesB o.kind with
           | false =>have HN:=Lh (loop_no HOo.o (one_d (id:=id) hmem hmk));have HMK:=Lh hmk;clear hmk hmem;go_wp2_with fail;refine(pmakes_any o.kind _).mono ?_;rintro e w9 ⟨rfl,rfl⟩;rw [HMK.o];go_wp2;go_ret;exact⟨rvl (congrArg Value.bool (HQ.o.trans HN.o).symm),bvo HB.o HB4.o⟩
           | true =>
            have HN:=Lh (one_e HG1.o HL1.o HK5.o (.inr hmk));have HMK:=Lh hmk;clear hmk hmem;go_wp2_with fail;refine(pmakes_any o.kind _).mono ?_;rintro e w9 ⟨rfl,rfl⟩;rw [HMK.o];go_wp2;go_roundw
            case rel=>exact⟨i+1,hlt,by go_num,HMb4,pg_next HK.o HOo.o HN.o,HB4.o⟩
            case measure=>simp [intOf];omega
          ·
           have d4:decide (1<(c:Int)+1)=false:=(by rw [HSM.o];simp [hmem]);have HN:=Lh (one_e HG1.o HL1.o HK5.o (.inl hmem));clear hmem;go_wp2;go_roundw
           case rel=>exact⟨i+1,hlt,by go_num,HMb4,pg_next HK.o HOo.o HN.o,HB4.o⟩
           case measure=>simp [intOf];omega
         ·
          have e5:((o.kind.toNat:Int) != 5)=true:=(by simp;omega);have HK5:Hid (¬ o.kind=5):=fun h=>h5 ((u8_nat _ 5 (by omega)).1 h);clear h5;go_wp2_with fail;refine(psuits_any id _ _ ops o _ (HV.o.over HB2.o) (own_ref HG1.o HOo.o)).mono ?_;rintro e w3 ⟨rfl,hb3⟩;have HB3:=Lh (bvo HB2.o hb3);have HO3:=Lh (HO2.o.over hb3);have HM3:=Lh (HM2.o.over hb3);clear o0 o1 o2 o3 o4 o5 o6 o7 so p0 p1 p2 p3 sp hb3;cases hs1:suitsM id ops o with
          | false =>have HN:=Lh (loop_no HOo.o (one_c (i:=i) HK5.o hs1));clear hs1;go_wp2;go_ret;exact⟨rvl (congrArg Value.bool (HQ.o.trans HN.o).symm),bvo HB.o HB3.o⟩
          | true =>
           have HK5:Hid (o.kind=5∨suitsM id ops o=true):=.inr hs1;clear hs1;go_upto_region 9 with fail;obtain⟨o0,o1,o2,o3,o4,o5,o6,o7,so⟩:=HO3.o.c8;obtain⟨v0,st,wa,e1,g1,s1,lk1,hst⟩:=TMap.entry keysOp lawOp int_inj HM3.o.drew Tryz.underlying244 (zv:=0) zero_int (by unfold maxLen;omega) o HZo.o;obtain⟨wb,e2,m4,g4,s4⟩:=hst wa ((seenF (ops.take i) o).getD 0+1) rfl;have lk0:=TMap.lookup keysOp int_inj HM3.o.drew Tryz.underlying244 (zv:=0) (zero_int _) o HZo.o;have lk4:=TMap.lookup keysOp int_inj m4 Tryz.underlying244 (zv:=0) (zero_int _) o HZo.o;have hup:(updM (seenF (ops.take i)) o ((seenF (ops.take i) o).getD 0+1) o).getD 0=(seenF (ops.take i) o).getD 0+1:=(by simp [updM]);rw [hup] at lk4;rw [seen_step,← tsg HOo.o] at m4;rw [seen_get] at lk0 lk1 lk4 e2;have hcnt:(ops.take i).count o≤i:=Nat.le_trans List.count_le_length (List.length_take_le _ _);have HSM:=Lh (seen_many (ops.take i) o);generalize (ops.take i).count o=c at *;unfold opV at e1 lk0 lk1 lk4;have HMb4:=Lh m4;have HG4:Hid (World.grownBy w3 wb (some wA.heap.size)):=gtr (gtr (grown_drew (World.grownBy.refl w3 _)) g1) g4;have hne:=TMap.ne_arr HM3.o HO3.o;have HO4:=Lh (HO3.o.grown HG4.o (by simp;exact hne));have HB4:=Lh (HB3.o.grown HG4.o HB3.o.size fun k hk=>by cases hk;exact hAs);clear hst hup m4 g1 g4;(try clear p0 p1 p2 p3 sp);go_region;clear lk0 lk1 e1 e2 o0 o1 o2 o3 o4 o5 o6 o7 so;obtain⟨o0,o1,o2,o3,o4,o5,o6,o7,so⟩:=HO4.o.c8
           by_cases hmem:o∈ops.take i
           ·
            have d4:decide (1<(c:Int)+1)=true:=(by rw [HSM.o];simp [hmem]);cases hmk:makesB o.kind with
            | false =>have HN:=Lh (loop_no HOo.o (one_d (id:=id) hmem hmk));have HMK:=Lh hmk;clear hmk hmem;go_wp2_with fail;refine(pmakes_any o.kind _).mono ?_;rintro e w9 ⟨rfl,rfl⟩;rw [HMK.o];go_wp2;go_ret;exact⟨rvl (congrArg Value.bool (HQ.o.trans HN.o).symm),bvo HB.o HB4.o⟩
            | true =>
             have HN:=Lh (one_e HG1.o HL1.o HK5.o (.inr hmk));have HMK:=Lh hmk;clear hmk hmem;go_wp2_with fail;refine(pmakes_any o.kind _).mono ?_;rintro e w9 ⟨rfl,rfl⟩;rw [HMK.o];go_wp2;go_roundw
             case rel=>exact⟨i+1,hlt,by go_num,HMb4,pg_next HK.o HOo.o HN.o,HB4.o⟩
             case measure=>simp [intOf];omega
           ·
            have d4:decide (1<(c:Int)+1)=false:=(by rw [HSM.o];simp [hmem]);have HN:=Lh (one_e HG1.o HL1.o HK5.o (.inl hmem));clear hmem;go_wp2;go_roundw
            case rel=>exact⟨i+1,hlt,by go_num,HMb4,pg_next HK.o HOo.o HN.o,HB4.o⟩
            case measure=>simp [intOf];omega
      · obtain rfl:i=ops.length:=(by omega);have HN:=Lh (loop_yes (id:=id) (ops:=ops) fun j o ho=>HK.o j o (List.getElem?_eq_some_iff.1 ho).1 ho);go_wp2;go_ret;exact⟨rvl (congrArg Value.bool (HQ.o.trans HN.o).symm),bvo HB.o hbl⟩
    · have HE:Hid (decide (deps=depsM id ops)=false):=(by show _=_;simp [g3]);have HQ:=Lh (goodQ_d (deps:=deps) g3);clear g3;refine wlo 27 fun hcur=>?_;(repeat(first|refine lxq ?_|(refine lxl rfl ?_;go_wp2_with (first|(go_at_call 177;(with_reducible refine(pgoodPid_any id _).mono ?_);rintro e w' ⟨rfl,hb⟩;rw [HG.o];have hcur:=bvo hcur hb)|(go_at_call 109;(with_reducible refine(pdeps_any id _ ops _ (HV.o.over hcur) hl).mono ?_);rintro e w' ⟨dv2,rfl,hd2,hb⟩;have HD2:=Lh hd2.row;replace hcur:=bvo hcur hb;clear hb hd2)|(go_at_call 178;(with_reducible refine(equalPid_any _ _ deps (depsM id ops) _ (HD.o.over hcur) HD2.o).mono ?_);rintro e w' ⟨rfl,hb⟩;rw [HE.o];have hcur:=bvo hcur hb));refine⟨iov hcur,?_⟩)));refine lxe ?_;have HB3:=Lh (bvo HB.o hcur);clear hcur;go_wp2;go_ret;exact⟨rvb HQ.o,HB3.o⟩
   · have d2:decide ((200:Int)<(ops.length:Int))=true:=(by simp;omega);have HQ:=Lh (goodQ_c (id:=id) (deps:=deps) g2);refine wlo 27 fun hcur=>?_;(repeat(first|refine lxq ?_|(refine lxl rfl ?_;go_wp2_with (first|(go_at_call 177;(with_reducible refine(pgoodPid_any id _).mono ?_);rintro e w' ⟨rfl,hb⟩;rw [HG.o];have hcur:=bvo hcur hb));refine⟨iov hcur,?_⟩)));refine lxe ?_;have HB3:=Lh (bvo HB.o hcur);clear hcur;go_wp2;go_ret;exact⟨rvb HQ.o,HB3.o⟩
  · have d1:decide ((ops.length:Int)<1)=true:=(by simp;omega);have HQ:=Lh (goodQ_b (id:=id) (deps:=deps) g1);refine wlo 27 fun hcur=>?_;(repeat(first|refine lxq ?_|(refine lxl rfl ?_;go_wp2_with (first|(go_at_call 177;(with_reducible refine(pgoodPid_any id _).mono ?_);rintro e w' ⟨rfl,hb⟩;rw [HG.o];have hcur:=bvo hcur hb));refine⟨iov hcur,?_⟩)));refine lxe ?_;have HB3:=Lh (bvo HB.o hcur);clear hcur;go_wp2;go_ret;exact⟨rvb HQ.o,HB3.o⟩
end
section
variable{ops:List OpM}{id:PidM}{k:UInt8}{v:VidM}
def ownM(id:PidM)(ops:List OpM)(v:VidM)(k:UInt8):Bool:=decide (v.pid≠id) || (match ops[v.n.toNat]? with|some o=>o.kind == k|none=>false)
theorem own_far(h:¬ v.pid=id):ownM id ops v k=true:=by unfold ownM;simp [h]
theorem own_out(h:v.pid=id)(hn:¬ v.n.toNat<ops.length):ownM id ops v k=false:=by unfold ownM;rw [List.getElem?_eq_none (by omega)];simp [h]
theorem own_in(h:v.pid=id){o:OpM}(ho:ops[v.n.toNat]? = some o):ownM id ops v k=(o.kind == k):=by unfold ownM;rw [ho];simp [h]
attribute [local irreducible] ownM
theorem rown_any(id:PidM)(dv ov:Value)(ops:List OpM)(v:VidM)(k:UInt8)(w:World)(hv:GRow encOp 8 w ov ops) :
  Calls Tryz.prog 246 #[patV id dv ov,vidV v,.int .u8 k.toNat] w fun e w'=>e=.returned (.bool (ownM id ops v k))∧Be w w':=by
 obtain⟨a,cap,rfl,h1,h2,hc⟩:=hv.at encOp_len;unfold maxLen at h2;have HC:=Lh hc;have HP:=Lh ((anw w #[.int .u8 id.author.toNat,.int .u16 id.seq.toNat,dv,.slice a ops.length cap] 44).alloc (.cells (cV v) 74));have HV:=Lh (an2 w (.cells #[.int .u8 id.author.toNat,.int .u16 id.seq.toNat,dv,.slice a ops.length cap] 44) (cV v) 74);have HB:=Lh ((bnew (w:=w) (.cells #[.int .u8 id.author.toNat,.int .u16 id.seq.toNat,dv,.slice a ops.length cap] 44)).alloc (by simp) (.cells (cV v) 74));have gd:=fun p q xs ys w=>guard_pid .neq p q xs ys w;have hnl:=v.n.toNat_lt;clear hv hc;unfold patV vidV;go_enter Tryz.func246,Tryz.ntmps246;go_upto_region 1 with fail;generalize (w.alloc (.cells #[.int .u8 id.author.toNat,.int .u16 id.seq.toNat,dv,.slice a ops.length cap] 44)).alloc (.cells (cV v) 74)=w0 at *;obtain⟨p0,p1,p2,p3,sp⟩:=HP.o.c4;obtain⟨v0,v1,v2,sv⟩:=HV.o.c3
 by_cases hp:v.pid=id
 rotate_left
 · have e1:=neq_pid v.pid id true (by simp [hp]);unfold pidV at e1;have HK:=Lh (own_far (ops:=ops) (k:=k) hp);clear hp;go_wp2;go_ret;exact⟨rvb HK.o,HB.o⟩
 have e1:=neq_pid v.pid id false (by simp [hp]);unfold pidV at e1
 by_cases hn:v.n.toNat<ops.length
 rotate_left
 ·
  have e2:decide (v.n.toNat<ops.length)=false:=by simpa using hn
  have HK:=Lh (own_out (k:=k) hp hn);clear hp hn;go_wp2;go_ret;exact⟨rvb HK.o,HB.o⟩
 have e2:decide (v.n.toNat<ops.length)=true:=by simpa using hn
 obtain⟨b,off,rfl,sb,hcb⟩:=HC.o.resolve_left (by omega);obtain⟨o,ho⟩:=get_op hn;have HO:=Lh (hcb v.n.toNat o ho w0 HB.o);obtain⟨o0,so⟩:=rc1 HO.o
 by_cases hk:o.kind=k
 ·
  have HK:Hid (ownM id ops v k=true):=by show _=_;rw [own_in hp ho];simp [hk]
  have e3:((o.kind.toNat:Int) == (k.toNat:Int))=true:=by simp [hk]
  clear hp hcb ho hk;go_wp2;go_ret;exact⟨rvb HK.o,HB.o⟩
 have HK:Hid (ownM id ops v k=false):=by show _=_;rw [own_in hp ho];simp [hk]
 have e3:((o.kind.toNat:Int) == (k.toNat:Int))=false:=by simp;intro h;exact hk (UInt8.toNat_inj.1 (by omega))
 clear hp hcb ho hk;go_wp2;go_ret;exact⟨rvb HK.o,HB.o⟩
end
section
variable{ops:List OpM}{i:Nat}{o:OpM}{id:PidM}{v:VidM}
def kindsR(id:PidM)(ops:List OpM)(o:OpM):Bool:=
 if o.kind=2∨o.kind=3 then ownM id ops o.at' 1
 else if o.kind=4 then ownM id ops o.at' 3 && (ownM id ops o.to 3 && (decide (o.at'.pid≠id) || (decide (o.to.pid≠id) || decide ((ops[o.at'.n.toNat]?).map (·.at')=(ops[o.to.n.toNat]?).map (·.at')))))
 else true
def oneR(id:PidM)(ops:List OpM)(i:Nat)(o:OpM):Bool:=opGood id i o && (!laterB id o && (!(decide (4≤o.kind.toNat) && decide (o∈ops.take i)) && kindsR id ops o))
theorem oneR_a(h:opGood id i o=false):oneR id ops i o=false:=by unfold oneR;rw [h];rfl
theorem oneR_b{k:Nat}(hv:(refsM o)[k]? = some v)(h:laterOne id v=true):oneR id ops i o=false:=by
 have:laterB id o=true:=by rw [laterB_eq];exact List.any_eq_true.2 ⟨v,List.mem_of_getElem? hv,h⟩
 unfold oneR;rw [this];simp
theorem oneR_c{k:Nat}(h4:4≤o.kind.toNat)(hk:k<i)(ho:ops[k]? = some o):oneR id ops i o=false:=by have:o∈ops.take i:=List.mem_iff_getElem?.2 ⟨k,by rw [List.getElem?_take,if_pos hk];exact ho⟩;unfold oneR;simp [h4,this]
theorem oneR_d(ha:opGood id i o=true)(hb:((refsM o).take (refsM o).length).any (laterOne id)=false)(hc:4≤o.kind.toNat→∀ j,j<i→ops[j]? ≠ some o):oneR id ops i o=kindsR id ops o:=by
 rw [List.take_length] at hb;have h1:laterB id o=false:=by rw [laterB_eq];exact hb
 have h2:(decide (4≤o.kind.toNat) && decide (o∈ops.take i))=false:=by
  by_cases h4:4≤o.kind.toNat
  ·
   have:¬ o∈ops.take i:=fun hm=>by obtain⟨j,hj⟩:=List.mem_iff_getElem?.1 hm;have hji:j<i:=(by have:=(List.getElem?_eq_some_iff.1 hj).1;rw [List.length_take] at this;omega);rw [List.getElem?_take,if_pos hji] at hj;exact hc h4 j hji hj
   simp [this]
  simp [h4]
 unfold oneR;rw [ha,h1,h2];rfl
theorem kindsR_2(h:o.kind.toNat=2∨o.kind.toNat=3):kindsR id ops o=ownM id ops o.at' 1:=by
 unfold kindsR;rw [if_pos];rcases h with h|h
 · exact .inl ((u8_nat _ 2 (by omega)).2 h)
 exact .inr ((u8_nat _ 3 (by omega)).2 h)
theorem kindsR_4(h:o.kind.toNat=4):kindsR id ops o=(ownM id ops o.at' 3 && (ownM id ops o.to 3 && (decide (o.at'.pid≠id) || (decide (o.to.pid≠id) || decide ((ops[o.at'.n.toNat]?).map (·.at')=(ops[o.to.n.toNat]?).map (·.at')))))):=by have h4:o.kind=4:=(u8_nat _ 4 (by omega)).2 h;unfold kindsR;rw [h4];rfl
theorem kindsR_1(h2:¬ o.kind.toNat=2)(h3:¬ o.kind.toNat=3)(h4:¬ o.kind.toNat=4):kindsR id ops o=true:=by
 unfold kindsR;rw [if_neg,if_neg]
 · intro e;exact h4 ((u8_nat _ 4 (by omega)).1 e)
 rintro(e|e)
 · exact h2 ((u8_nat _ 2 (by omega)).1 e)
 exact h3 ((u8_nat _ 3 (by omega)).1 e)
theorem later_a(h1:v.pid.author=id.author)(h2:id.seq.toNat<v.pid.seq.toNat):laterOne id v=true:=by unfold laterOne;simp [h1,h2]
theorem later_b(h2:¬ id.seq.toNat<v.pid.seq.toNat):laterOne id v=false:=by unfold laterOne;simp [h2]
theorem later_c(h1:¬ v.pid.author=id.author):laterOne id v=false:=by unfold laterOne;simp [h1]
theorem own_get{k:UInt8}(h:v.pid=id)(ho:ownM id ops v k=true):∃ o,ops[v.n.toNat]? = some o:=by
 by_cases hn:v.n.toNat<ops.length
 · exact get_op hn
 rw [own_out h hn] at ho;cases ho
attribute [local irreducible] refsM opGood laterB oneR kindsR ownM laterOne
theorem rone_any(id:PidM)(dv ov:Value)(ops:List OpM)(i:Nat)(o:OpM)(w:World)(hv:GRow encOp 8 w ov ops)(ho:ops[i]? = some o)(hl:ops.length≤40000)(hz:o.text.size≤maxLen) :
  Calls Tryz.prog 185 #[patV id dv ov,.int .i64 i] w fun e w'=>e=.returned (.bool (oneR id ops i o))∧Be w w':=by
 have HV0:=Lh hv;have HZ:=Lh hz;have hlt:=(List.getElem?_eq_some_iff.1 ho).1;obtain⟨a,cap,rfl,h1,h2,hc⟩:=hv.at encOp_len;unfold maxLen at h2;have HC:=Lh hc;have HP:=Lh (anw w #[.int .u8 id.author.toNat,.int .u16 id.seq.toNat,dv,.slice a ops.length cap] 44);have HB:=Lh (bnew (w:=w) (.cells #[.int .u8 id.author.toNat,.int .u16 id.seq.toNat,dv,.slice a ops.length cap] 44));have gp:=fun p q xs ys w=>guard_pid .neq p q xs ys w;have gv:=fun p q xs ys w=>guard_vid .eql p q xs ys w;have go':=fun p q xs ys w=>guard_op .eql p q xs ys w;have hrl:=refs_len o;have HOo:=Lh ho;clear hv hc hz ho;unfold patV;go_enter Tryz.func185,Tryz.ntmps185;go_upto_region 1 with fail;generalize w.alloc (.cells #[.int .u8 id.author.toNat,.int .u16 id.seq.toNat,dv,.slice a ops.length cap] 44)=w0 at *;obtain⟨b,off,rfl,sb,hcb⟩:=HC.o.resolve_left (by omega);have HCb:=Lh hcb;have HCo:=Lh (hcb i o HOo.o w0 HB.o);clear hcb;obtain⟨p0,p1,p2,p3,sp⟩:=HP.o.c4;obtain⟨o0,o1,o2,o3,o4,o5,o6,o7,so⟩:=rc8 HCo.o;have HO:Hid (Arr (w0.alloc (.cells (cO o) 76)) w0.heap.size [.int .u8 o.kind.toNat,.int .u8 o.at'.pid.author.toNat,.int .u16 o.at'.pid.seq.toNat,.int .u8 o.at'.n.toNat,.int .u8 o.to.pid.author.toNat,.int .u16 o.to.pid.seq.toNat,.int .u8 o.to.n.toNat,.string o.text]):=anw _ _ _;have HB1:Hid (Be w0 (w0.alloc (.cells (cO o) 76))):=bnew _;go_upto_region 2 with fail;generalize w0.alloc (.cells (cO o) 76)=w1 at *;clear o0 o1 o2 o3 o4 o5 o6 o7 so p0 p1 p2 p3 sp;have HP1:=Lh (HP.o.over HB1.o);have HBw1:=Lh (bvo HB.o HB1.o);obtain⟨o0,o1,o2,o3,o4,o5,o6,o7,so⟩:=HO.o.c8;obtain⟨p0,p1,p2,p3,sp⟩:=HP1.o.c4;go_wp2_with fail;refine(rogood_any id i o _ (by omega) HZ.o).mono ?_;rintro e w2 ⟨rfl,hb2⟩;have HB2:=Lh hb2;have HO2:=Lh (HO.o.over hb2);have HP2:=Lh (HP1.o.over hb2);have HBw2:=Lh (bvo HBw1.o hb2);clear hb2;clear o0 o1 o2 o3 o4 o5 o6 o7 so p0 p1 p2 p3 sp;cases hg:opGood id i o with
 | false =>have HN:=Lh (oneR_a (ops:=ops) hg);clear hg;go_wp2;go_ret;exact⟨rvb HN.o,HBw2.o⟩
 | true =>
  have HG:=Lh hg;clear hg;obtain⟨o0,o1,o2,o3,o4,o5,o6,o7,so⟩:=HO2.o.c8;go_wp2_with fail;refine(rrefs_any o _).mono ?_;rintro e w3 ⟨v3,rfl,hv3,hb3⟩;obtain⟨a3,cap3,rfl,q1,q2,hc3⟩:=(GRow.at encVid_len (RefsAt.vrow hv3));unfold maxLen at q2;have HC3:=Lh hc3;have HO3:=Lh (HO2.o.over hb3);have HP3:=Lh (HP2.o.over hb3);have HBw3:=Lh (bvo HBw2.o hb3);clear hb3 hv3 hc3 o0 o1 o2 o3 o4 o5 o6 o7 so;go_wp2;go_loopw [7] (fun v7 wr=>∃ k:Nat,k≤(refsM o).length∧v7=.int .i64 k∧Hid (((refsM o).take k).any (laterOne id)=false)∧Be w3 wr) (fun v7 _=>(refsM o).length - (intOf v7).toNat)
  case atStart=>exact⟨0,by omega,rfl,(by show _=_;simp),Below.refl _ _⟩
  case round =>
   obtain⟨k,hk,rfl,HK,hbl⟩:=hrel;have HBr:=Lh (bvo HBw3.o hbl);have HPr:=Lh (HP3.o.over hbl)
   by_cases hlt2:k<(refsM o).length
   ·
    obtain⟨b3,off3,rfl,sb3,hcb⟩:=HC3.o.resolve_left (by omega);obtain⟨v,hv⟩:=gol hlt2;have HVd:=Lh (hcb k v hv wr hbl);obtain⟨v0,v1,sv⟩:=rc2 HVd.o;have HX:=Lh hv;clear hcb hv;obtain⟨p0,p1,sp⟩:=HPr.o.c2
    by_cases g1:v.pid.author=id.author
    ·
     have d1:((v.pid.author.toNat:Int) == (id.author.toNat:Int))=true:=by simp [g1]
     by_cases g2:id.seq.toNat<v.pid.seq.toNat
     · have d2:decide (id.seq.toNat<v.pid.seq.toNat)=true:=(by simpa using g2);have HN:=Lh (oneR_b (i:=i) (ops:=ops) HX.o (later_a g1 g2));clear g1 g2;go_wp2_with fail;refine wlo 22 fun hcur=>?_;(repeat refine lxq ?_);refine lxe ?_;clear hcur;go_wp2;go_ret;exact⟨rvb HN.o,HBr.o.drew⟩
     ·
      have d2:decide (id.seq.toNat<v.pid.seq.toNat)=false:=(by simpa using g2);have HN:=Lh (any_step HK.o HX.o (later_b g2));clear g1 g2;go_wp2_with fail;refine wlo 22 fun hcur=>?_;(repeat refine lxq ?_);refine lxe ?_;clear hcur;go_wp2;go_roundw
      case rel=>exact⟨k+1,hlt2,by go_num,HN,hbl.drew⟩
      case measure=>simp [intOf];omega
    ·
     have d1:((v.pid.author.toNat:Int) == (id.author.toNat:Int))=false:=(by simp;intro h;exact g1 (UInt8.toNat_inj.1 (by omega)));have HN:=Lh (any_step HK.o HX.o (later_c g1));clear g1;go_wp2_with fail;refine wlo 22 fun hcur=>?_;(repeat refine lxq ?_);refine lxe ?_;clear hcur;go_wp2;go_roundw
     case rel=>exact⟨k+1,hlt2,by go_num,HN,hbl.drew⟩
     case measure=>simp [intOf];omega
   ·
    obtain rfl:k=(refsM o).length:=(by omega);have HL:=Lh HK.o;have HO4:=Lh (HO3.o.over hbl);rename World=>w4;clear HK hbl;go_wp2;go_loopw [8] (fun v8 wr=>∃ k:Nat,k≤i∧v8=.int .i64 k∧Hid (4≤o.kind.toNat→∀ j,j<k→ops[j]? ≠ some o)∧Be w4 wr) (fun v8 _=>i - (intOf v8).toNat)
    case atStart=>exact⟨0,by omega,rfl,fun _ j hj=>absurd hj (Nat.not_lt_zero _),Below.refl _ _⟩
    case round =>
     obtain⟨k,hk,rfl,HK,hbl⟩:=hrel;have HB5:=Lh (bvo HBr.o hbl);have HO5:=Lh (HO4.o.over hbl);have HP5:=Lh (HPr.o.over hbl);obtain⟨o0,o1,o2,o3,o4,o5,o6,o7,so⟩:=HO5.o.c8;obtain⟨p0,p1,p2,p3,sp⟩:=HP5.o.c4
     by_cases hlt3:k<i
     ·
      by_cases h4:4≤o.kind.toNat
      ·
       have d4:decide ((4:Int)≤(o.kind.toNat:Int))=true:=(by simp;omega);obtain⟨x,hx⟩:=gol (show k<ops.length by omega);have HXa:=Lh (HCb.o k x hx wr HB5.o);obtain⟨x0,x1,x2,x3,x4,x5,x6,x7,sx⟩:=rc8 HXa.o
       by_cases hxo:x=o
       · have e6:=eql_op x o true (by simp [hxo]);unfold opV at e6;have HN:=Lh (oneR_c (id:=id) h4 hlt3 (hxo▸hx));clear h4 hx hxo;go_wp2_with fail;refine wlo 12 fun hcur=>?_;(repeat refine lxq ?_);refine lxe ?_;clear hcur;go_wp2;go_ret;exact⟨rvb HN.o,HB5.o.drew⟩
       ·
        have e6:=eql_op x o false (by simp [hxo]);unfold opV at e6;have HN:Hid (4≤o.kind.toNat→∀ j,j<k+1→ops[j]? ≠ some o):=fun h4 j hj e=>by
         by_cases hjk:j=k
         · subst hjk;rw [hx] at e;exact hxo (Option.some.inj e)
         · exact HK.o h4 j (by omega) e
        clear h4 hx hxo;go_wp2_with fail;refine wlo 12 fun hcur=>?_;(repeat refine lxq ?_);refine lxe ?_;clear hcur;go_wp2;go_roundw
        case rel=>exact⟨k+1,hlt3,by go_num,HN,hbl.drew⟩
        case measure=>simp [intOf];omega
      ·
       have d4:decide ((4:Int)≤(o.kind.toNat:Int))=false:=(by simp;omega);have HN:Hid (4≤o.kind.toNat→∀ j,j<k+1→ops[j]? ≠ some o):=fun h=>absurd h h4;clear h4;go_wp2_with fail;refine wlo 12 fun hcur=>?_;(repeat refine lxq ?_);refine lxe ?_;clear hcur;go_wp2;go_roundw
       case rel=>exact⟨k+1,hlt3,by go_num,HN,hbl.drew⟩
       case measure=>simp [intOf];omega
     ·
      obtain rfl:k=i:=(by omega);have HE:=Lh (oneR_d HG.o HL.o HK.o);have HV5:=Lh (HV0.o.over HB5.o);clear HK HL
      by_cases h2:o.kind.toNat=2
      · have d2:((o.kind.toNat:Int) == 2)=true:=(by simp;omega);have HK2:=Lh (kindsR_2 (id:=id) (ops:=ops) (.inl h2));clear h2;go_wp2_with fail;refine(rown_any id dv _ ops o.at' 1 _ HV5.o).mono ?_;rintro e w6 ⟨rfl,hb6⟩;have HB6:=Lh (bvo HB5.o hb6);clear hb6;rw [← HK2.o,← HE.o];go_wp2;go_ret;exact⟨rfl,HB6.o⟩
      ·
       have d2:((o.kind.toNat:Int) == 2)=false:=by simp;omega
       by_cases h3:o.kind.toNat=3
       · have d3:((o.kind.toNat:Int) == 3)=true:=(by simp;omega);have HK2:=Lh (kindsR_2 (id:=id) (ops:=ops) (.inr h3));clear h2 h3;go_wp2_with fail;refine(rown_any id dv _ ops o.at' 1 _ HV5.o).mono ?_;rintro e w6 ⟨rfl,hb6⟩;have HB6:=Lh (bvo HB5.o hb6);clear hb6;rw [← HK2.o,← HE.o];go_wp2;go_ret;exact⟨rfl,HB6.o⟩
       ·
        have d3:((o.kind.toNat:Int) == 3)=false:=by simp;omega
        by_cases h4:o.kind.toNat=4
        ·
         have d4:((o.kind.toNat:Int) == 4)=true:=(by simp;omega);have HK4:=Lh (HE.o.trans (kindsR_4 (id:=id) (ops:=ops) h4));clear h2 h3 h4;go_wp2_with fail;refine(rown_any id dv _ ops o.at' 3 _ HV5.o).mono ?_;rintro e w6 ⟨rfl,hb6⟩;have HB6:=Lh (bvo HB5.o hb6);have HO6:=Lh (HO5.o.over hb6);have HP6:=Lh (HP5.o.over hb6);clear hb6;clear o0 o1 o2 o3 o4 o5 o6 o7 so p0 p1 p2 p3 sp;cases ha:ownM id ops o.at' 3 with
         | false =>have HN:Hid (oneR id ops k o=false):=(by show _=_;rw [HK4.o,ha];rfl);clear ha;go_wp2;go_ret;exact⟨rvb HN.o,HB6.o⟩
         | true =>
          have HA:=Lh ha;clear ha;obtain⟨o0,o1,o2,o3,o4,o5,o6,o7,so⟩:=HO6.o.c8;obtain⟨p0,p1,p2,p3,sp⟩:=HP6.o.c4;go_wp2_with fail;refine(rown_any id dv _ ops o.to 3 _ (HV0.o.over HB6.o)).mono ?_;rintro e w7 ⟨rfl,hb7⟩;have HB7:=Lh (bvo HB6.o hb7);have HO7:=Lh (HO6.o.over hb7);have HP7:=Lh (HP6.o.over hb7);clear hb7;clear o0 o1 o2 o3 o4 o5 o6 o7 so p0 p1 p2 p3 sp;cases ht:ownM id ops o.to 3 with
          | false =>have HN:Hid (oneR id ops k o=false):=(by show _=_;rw [HK4.o,HA.o,ht];rfl);clear ht;go_wp2;go_ret;exact⟨rvb HN.o,HB7.o⟩
          | true =>
           have HT:=Lh ht;clear ht;obtain⟨o0,o1,o2,o3,o4,o5,o6,o7,so⟩:=HO7.o.c8;obtain⟨p0,p1,p2,p3,sp⟩:=HP7.o.c4
           by_cases g1:o.at'.pid=id
           ·
            have e1:=neq_pid o.at'.pid id false (by simp [g1]);unfold pidV at e1
            by_cases g2:o.to.pid=id
            · have e2:=neq_pid o.to.pid id false (by simp [g2]);unfold pidV at e2;obtain⟨x,hx⟩:=own_get g1 HA.o;obtain⟨y,hy⟩:=own_get g2 HT.o;have hxl:=(List.getElem?_eq_some_iff.1 hx).1;have hyl:=(List.getElem?_eq_some_iff.1 hy).1;have HXa:=Lh (HCb.o _ x hx w7 HB7.o);have HYa:=Lh (HCb.o _ y hy w7 HB7.o);have HN:Hid (oneR id ops k o=decide (x.at'=y.at')):=(by show _=_;rw [HK4.o,HA.o,HT.o,hx,hy];simp [g1,g2]);have x1:w7.cell? ⟨b,off+o.at'.n.toNat*8+1,none⟩=some (.int .u8 x.at'.pid.author.toNat):=HXa.o.2 1 _ rfl;have x2:w7.cell? ⟨b,off+o.at'.n.toNat*8+2,none⟩=some (.int .u16 x.at'.pid.seq.toNat):=HXa.o.2 2 _ rfl;have x3:w7.cell? ⟨b,off+o.at'.n.toNat*8+3,none⟩=some (.int .u8 x.at'.n.toNat):=HXa.o.2 3 _ rfl;have y1:w7.cell? ⟨b,off+o.to.n.toNat*8+1,none⟩=some (.int .u8 y.at'.pid.author.toNat):=HYa.o.2 1 _ rfl;have y2:w7.cell? ⟨b,off+o.to.n.toNat*8+2,none⟩=some (.int .u16 y.at'.pid.seq.toNat):=HYa.o.2 2 _ rfl;have y3:w7.cell? ⟨b,off+o.to.n.toNat*8+3,none⟩=some (.int .u8 y.at'.n.toNat):=HYa.o.2 3 _ rfl;have sxy:=HXa.o.1;have e4:=eql_vid x.at' y.at' _ rfl;unfold vidV at e4;generalize decide (x.at'=y.at')=q at *;have hna:=o.at'.n.toNat_lt;have hnb:=o.to.n.toNat_lt;clear g1 g2 hx hy;go_wp2_with fail;refine wlo 35 fun hcur=>?_;(repeat refine lxq ?_);refine lxe ?_;clear hcur;go_wp2;go_ret;exact⟨rvb HN.o,HB7.o.drew⟩
            · have e2:=neq_pid o.to.pid id true (by simp [g2]);unfold pidV at e2;have HN:Hid (oneR id ops k o=true):=(by show _=_;rw [HK4.o,HA.o,HT.o];simp [g2]);clear g1 g2;go_wp2_with fail;refine wlo 35 fun hcur=>?_;(repeat refine lxq ?_);refine lxe ?_;clear hcur;go_wp2;go_ret;exact⟨rvb HN.o,HB7.o.drew⟩
           · have e1:=neq_pid o.at'.pid id true (by simp [g1]);unfold pidV at e1;have HN:Hid (oneR id ops k o=true):=(by show _=_;rw [HK4.o,HA.o,HT.o];simp [g1]);clear g1;go_wp2_with fail;refine wlo 35 fun hcur=>?_;(repeat refine lxq ?_);refine lxe ?_;clear hcur;go_wp2;go_ret;exact⟨rvb HN.o,HB7.o.drew⟩
        · have d4:((o.kind.toNat:Int) == 4)=false:=(by simp;omega);have HK1:=Lh (HE.o.trans (kindsR_1 (id:=id) (ops:=ops) h2 h3 h4));clear h2 h3 h4;go_wp2;go_ret;exact⟨rvb HK1.o,HB5.o⟩
end
section
variable{ops:List OpM}{deps:List PidM}{id:PidM}
def loopR(id:PidM)(ops:List OpM):Bool:=(List.range ops.length).all fun i=>match ops[i]? with|some o=>oneR id ops i o|none=>false
def goodR(id:PidM)(deps:List PidM)(ops:List OpM):Bool:=goodPid id && (decide (1≤ops.length) && (decide (ops.length≤200) && (decide (deps=depsM id ops) && loopR id ops)))
theorem loopR_no{i:Nat}{o:OpM}(ho:ops[i]? = some o)(h:oneR id ops i o=false):loopR id ops=false:=by unfold loopR;refine List.all_eq_false.2 ⟨i,List.mem_range.2 (List.getElem?_eq_some_iff.1 ho).1,?_⟩;rw [ho];simp [h]
theorem loopR_yes(h:∀ i o,ops[i]? = some o→oneR id ops i o=true):loopR id ops=true:=by unfold loopR;refine List.all_eq_true.2 fun i hi => ?_;obtain⟨o,ho⟩:=gol (List.mem_range.1 hi);rw [ho];exact h i o ho
theorem rg_next{i:Nat}{o:OpM}(h:∀ j o,j<i→ops[j]? = some o→oneR id ops j o=true)(ho:ops[i]? = some o)(hn:oneR id ops i o=true):∀ j o,j<i+1→ops[j]? = some o→oneR id ops j o=true:=by
 intro j o' hj hj'
 by_cases e:j=i
 · subst e;rw [ho] at hj';cases hj';exact hn
 exact h j o' (by omega) hj'
theorem goodR_a(h:goodPid id=false):goodR id deps ops=false:=by unfold goodR;rw [h];rfl
theorem goodR_b(h:¬ 1≤ops.length):goodR id deps ops=false:=by unfold goodR;simp;omega
theorem goodR_c(h:¬ ops.length≤200):goodR id deps ops=false:=by unfold goodR;simp;omega
theorem goodR_d(h:¬ deps=depsM id ops):goodR id deps ops=false:=by unfold goodR;simp [h]
theorem goodR_e(h1:goodPid id=true)(h2:1≤ops.length)(h3:ops.length≤200)(h4:deps=depsM id ops):goodR id deps ops=loopR id ops:=by unfold goodR;rw [h1];simp [h2,h3,h4]
theorem goodR_eq(p:PatchM):goodR p.id p.deps p.ops=goodP p:=rfl
attribute [local irreducible] refsM opGood laterB oneR loopR goodR goodPid depsM
theorem rgood_any(id:PidM)(dv ov:Value)(deps:List PidM)(ops:List OpM)(w:World)(hd:GRow encPid 2 w dv deps)(hv:GRow encOp 8 w ov ops)(hl:ops.length≤40000)(hz:∀ o∈ops,o.text.size≤maxLen) :
  Calls Tryz.prog 114 #[patV id dv ov] w fun e w'=>e=.returned (.bool (goodR id deps ops))∧Be w w':=by
 have HV0:=Lh hv;have HD0:=Lh hd;have HZ:=Lh hz;obtain⟨a,cap,rfl,h1,h2,hc⟩:=hv.at encOp_len;obtain⟨ad,capd,rfl,h1d,h2d,_⟩:=hd.at encPid_len;unfold maxLen at h2 h2d;have HC:=Lh hc;have HP:=Lh (anw w #[.int .u8 id.author.toNat,.int .u16 id.seq.toNat,.slice ad deps.length capd,.slice a ops.length cap] 44);have HB:=Lh (bnew (w:=w) (.cells #[.int .u8 id.author.toNat,.int .u16 id.seq.toNat,.slice ad deps.length capd,.slice a ops.length cap] 44));clear hv hd hc hz;unfold patV;go_enter Tryz.func114,Tryz.ntmps114;go_upto_region 1 with fail;generalize w.alloc (.cells #[.int .u8 id.author.toNat,.int .u16 id.seq.toNat,.slice ad deps.length capd,.slice a ops.length cap] 44)=w0 at *;have HV:=Lh (HV0.o.over HB.o);have HD:=Lh (HD0.o.over HB.o);obtain⟨p0,p1,p2,p3,sp⟩:=HP.o.c4;cases hg:goodPid id with
 | false =>
  have HQ:=Lh (goodR_a (deps:=deps) (ops:=ops) hg);have HG:=Lh hg;clear hg;refine wlo 27 fun hcur=>?_;repeat(first|refine lxq ?_|(refine lxl rfl ?_;go_wp2_with (first|(go_at_call 184;(with_reducible refine(rgoodPid_any id _).mono ?_);rintro e w' ⟨rfl,hb⟩;rw [HG.o];have hcur:=bvo hcur hb));refine⟨iov hcur,?_⟩))
  refine lxe ?_;have HB3:=Lh (bvo HB.o hcur);clear hcur;go_wp2;go_ret;exact⟨rvb HQ.o,HB3.o⟩
 | true =>
  have HG:=Lh hg;clear hg
  by_cases g1:1≤ops.length
  ·
   have d1:decide ((ops.length:Int)<1)=false:=by simp;omega
   by_cases g2:ops.length≤200
   ·
    have d2:decide ((200:Int)<(ops.length:Int))=false:=by simp;omega
    by_cases g3:deps=depsM id ops
    ·
     have HE:Hid (decide (deps=depsM id ops)=true):=(by show _=_;simp [g3]);have HQ:=Lh (goodR_e HG.o g1 g2 g3);clear g3;refine wlo 27 fun hcur=>?_;(repeat(first|refine lxq ?_|(refine lxl rfl ?_;go_wp2_with (first|(go_at_call 184;(with_reducible refine(rgoodPid_any id _).mono ?_);rintro e w' ⟨rfl,hb⟩;rw [HG.o];have hcur:=bvo hcur hb)|(go_at_call 113;(with_reducible refine(rdeps_any id _ ops _ (HV.o.over hcur) hl).mono ?_);rintro e w' ⟨dv2,rfl,hd2,hb⟩;have HD2:=Lh hd2;replace hcur:=bvo hcur hb;clear hb hd2)|(go_at_call 53;(with_reducible refine(rsamePid_any _ _ deps (depsM id ops) _ (HD.o.over hcur) HD2.o).mono ?_);rintro e wA ⟨rfl,hb⟩;rw [HE.o];have hcur:=bvo hcur hb));refine⟨iov hcur,?_⟩)));refine lxe ?_;have HA0:=Lh hcur;clear hcur p0 p1 p2 p3 sp;go_wp2;go_loopw [3] (fun v3 wr=>∃ k:Nat,k≤ops.length∧v3=.int .i64 k∧Hid (∀ j o,j<k→ops[j]? = some o→oneR id ops j o=true)∧Be w0 wr) (fun v3 _=>ops.length - (intOf v3).toNat)
     case atStart=>exact⟨0,by omega,rfl,fun j o hj=>absurd hj (Nat.not_lt_zero _),HA0.o⟩
     case round =>
      obtain⟨k,hk,rfl,HK,hbl⟩:=hrel;have HPr:=Lh (HP.o.over hbl);have HBr:=Lh (bvo HB.o hbl);obtain⟨p0,p1,p2,p3,sp⟩:=HPr.o.c4
      by_cases hlt:k<ops.length
      ·
       obtain⟨o,ho⟩:=gol hlt;have HOo:=Lh ho;have hzo:=HZ.o o (List.mem_of_getElem? ho);have HZo:=Lh hzo;clear ho hzo;go_wp2_with fail;refine(rone_any id _ _ ops k o _ (HV.o.over hbl) HOo.o hl HZo.o).mono ?_;rintro e w3 ⟨rfl,hb3⟩;have HB3:=Lh (bvo hbl hb3);clear hb3 p0 p1 p2 p3 sp;cases h1:oneR id ops k o with
       | false =>have HN:=Lh (loopR_no HOo.o h1);clear h1;go_wp2;go_ret;exact⟨rvl (congrArg Value.bool (HQ.o.trans HN.o).symm),bvo HB.o HB3.o⟩
       | true =>
        have HN:=Lh (rg_next HK.o HOo.o h1);clear h1;go_wp2;go_roundw
        case rel=>exact⟨k+1,hlt,by go_num,HN,HB3.o⟩
        case measure=>simp [intOf];omega
      · obtain rfl:k=ops.length:=(by omega);have HN:=Lh (loopR_yes (id:=id) (ops:=ops) fun j o ho=>HK.o j o (List.getElem?_eq_some_iff.1 ho).1 ho);go_wp2;go_ret;exact⟨rvl (congrArg Value.bool (HQ.o.trans HN.o).symm),HBr.o⟩
    · have HE:Hid (decide (deps=depsM id ops)=false):=(by show _=_;simp [g3]);have HQ:=Lh (goodR_d (deps:=deps) g3);clear g3;refine wlo 27 fun hcur=>?_;(repeat(first|refine lxq ?_|(refine lxl rfl ?_;go_wp2_with (first|(go_at_call 184;(with_reducible refine(rgoodPid_any id _).mono ?_);rintro e w' ⟨rfl,hb⟩;rw [HG.o];have hcur:=bvo hcur hb)|(go_at_call 113;(with_reducible refine(rdeps_any id _ ops _ (HV.o.over hcur) hl).mono ?_);rintro e w' ⟨dv2,rfl,hd2,hb⟩;have HD2:=Lh hd2;replace hcur:=bvo hcur hb;clear hb hd2)|(go_at_call 53;(with_reducible refine(rsamePid_any _ _ deps (depsM id ops) _ (HD.o.over hcur) HD2.o).mono ?_);rintro e w' ⟨rfl,hb⟩;rw [HE.o];have hcur:=bvo hcur hb));refine⟨iov hcur,?_⟩)));refine lxe ?_;have HB3:=Lh (bvo HB.o hcur);clear hcur;go_wp2;go_ret;exact⟨rvb HQ.o,HB3.o⟩
   · have d2:decide ((200:Int)<(ops.length:Int))=true:=(by simp;omega);have HQ:=Lh (goodR_c (id:=id) (deps:=deps) g2);refine wlo 27 fun hcur=>?_;(repeat(first|refine lxq ?_|(refine lxl rfl ?_;go_wp2_with (first|(go_at_call 184;(with_reducible refine(rgoodPid_any id _).mono ?_);rintro e w' ⟨rfl,hb⟩;rw [HG.o];have hcur:=bvo hcur hb));refine⟨iov hcur,?_⟩)));refine lxe ?_;have HB3:=Lh (bvo HB.o hcur);clear hcur;go_wp2;go_ret;exact⟨rvb HQ.o,HB3.o⟩
  · have d1:decide ((ops.length:Int)<1)=true:=(by simp;omega);have HQ:=Lh (goodR_b (id:=id) (deps:=deps) g1);refine wlo 27 fun hcur=>?_;(repeat(first|refine lxq ?_|(refine lxl rfl ?_;go_wp2_with (first|(go_at_call 184;(with_reducible refine(rgoodPid_any id _).mono ?_);rintro e w' ⟨rfl,hb⟩;rw [HG.o];have hcur:=bvo hcur hb));refine⟨iov hcur,?_⟩)));refine lxe ?_;have HB3:=Lh (bvo HB.o hcur);clear hcur;go_wp2;go_ret;exact⟨rvb HQ.o,HB3.o⟩
end
section
variable{ops:List OpM}{i:Nat}{o:OpM}{id:PidM}
theorem own_lt(h:opGood id i o=true)(ho:ops[i]? = some o){v:VidM}(hv:v∈refsM o)(e:v.pid=id):∃ x,ops[v.n.toNat]? = some x:=
 gol (own_ref h ho v hv e)
theorem kindOk_own(h:opGood id i o=true)(ho:ops[i]? = some o){v:VidM}(hv:v∈refsM o):kindOkB id ops o v=ownM id ops v (wantK o):=by
 unfold kindOkB kindM ownM
 by_cases e:v.pid=id
 · obtain⟨x,hx⟩:=own_lt h ho hv e;rw [if_pos e,hx];simp [e]
 rw [if_neg e];simp [e]
theorem refs_kind:(o.kind=2∨o.kind=3→refsM o=[o.at'])∧(o.kind=4→refsM o=[o.at',o.to])∧(o.kind=1→refsM o=[]):=by
 unfold refsM;refine⟨fun h => ?_,fun h => ?_,fun h => ?_⟩
 · rcases h with h|h <;> simp [h]
 · simp [h]
 simp [h]
theorem suits_kinds(h:opGood id i o=true)(ho:ops[i]? = some o):(decide (o.kind=5) || suitsM id ops o)=kindsR id ops o:=by
 have hk:=opTail_kind (opGood_tail h);have hs:suitsM id ops o=((refsM o).all (fun v=>ownM id ops v (wantK o)) && sameAtB id ops o):=by unfold suitsM;congr 1;rw [Bool.eq_iff_iff,List.all_eq_true,List.all_eq_true];exact forall₂_congr fun v hv=>by rw [kindOk_own h ho hv]
 rw [hs];rcases hk with h1|h1|h1|h1|⟨h1,_⟩
 · unfold kindsR sameAtB;rw [(refs_kind).2.2 h1];simp [h1]
 · unfold kindsR sameAtB wantK;rw [(refs_kind).1 (.inl h1)];simp [h1]
 · unfold kindsR sameAtB wantK;rw [(refs_kind).1 (.inr h1)];simp [h1]
 ·
  unfold kindsR sameAtB wantK;rw [(refs_kind).2.1 h1];simp only [h1]
  by_cases ha:o.at'.pid=id <;> by_cases hb:o.to.pid=id <;> simp [ha,hb,Bool.and_assoc]
 unfold kindsR;simp [h1]
theorem one_same(ho:ops[i]? = some o):oneP id ops i o=oneR id ops i o:=by
 unfold oneP oneR;cases h:opGood id i o with
 | false=>rfl
 | true =>
  rw [suits_kinds h ho];have hm:(!makesB o.kind)=decide (4≤o.kind.toNat):=by rcases opTail_kind (opGood_tail h) with h1|h1|h1|h1|⟨h1,_⟩ <;> rw [h1] <;> decide
  rw [hm,Bool.and_comm (decide (o∈ops.take i)),Bool.and_comm (kindsR id ops o)]
theorem goodQ_eq(p:PatchM):goodQ p.id p.deps p.ops=goodP p:=by
 rw [← goodR_eq];unfold goodQ goodR;have:loopP p.id p.ops=loopR p.id p.ops:=by unfold loopP loopR;rw [Bool.eq_iff_iff,List.all_eq_true,List.all_eq_true];refine forall₂_congr fun i hi => ?_;obtain⟨o,ho⟩:=gol (List.mem_range.1 hi);rw [ho];simp only [one_same ho]
 rw [this]
end
theorem bcell{W w1:World}(hb:Be W w1):(∀ b o,b<W.heap.size→w1.cell? ⟨b,o,none⟩=W.cell? ⟨b,o,none⟩)∧(∀ b o,b<W.heap.size→w1.frozen? ⟨b,o,none⟩=W.frozen? ⟨b,o,none⟩):=
 ⟨fun b o h=>hb.cell (p:=⟨b,o,none⟩) h,fun b o h=>hb.frozen (p:=⟨b,o,none⟩) h⟩
def gCells(f:VecM)(bv be:Nat):List Value:=vecL f++[.map (some bv),.map (some be)]
theorem gCells_v(f:VecM)(bv be:Nat):(gCells f bv be)[64]? = some (.map (some bv)):=by unfold gCells;rw [List.getElem?_append_right (by rw [vecL_len];omega),vecL_len];rfl
theorem gCells_e(f:VecM)(bv be:Nat):(gCells f bv be)[65]? = some (.map (some be)):=by unfold gCells;rw [List.getElem?_append_right (by rw [vecL_len];omega),vecL_len];rfl
abbrev VMap(w:World)(b n:Nat)(f:VidM→Option VertM):Prop:=TMap Tryz.prog 74 vidV okAll vertV w b n f
abbrev EMap(w:World)(b n:Nat)(f:EdgeM→Option VidM):Prop:=TMap Tryz.prog 133 edgeV okAll vidV w b n f
structure GrW (w:World) (b bv be n:Nat) (f:VecM) (v:VidM→Option VertM) (e:EdgeM→Option VidM):Prop where
 arr:Arr w b (gCells f bv be)
 verts:VMap w bv n v
 edges:EMap w be n e
 ne:bv≠be
theorem GrW.over{w w':World}{b bv be n:Nat}{f:VecM}{v:VidM→Option VertM}{e:EdgeM→Option VidM}(h:GrW w b bv be n f v e)(hb:Be w w'):GrW w' b bv be n f v e:=⟨h.arr.over hb,h.verts.over hb,h.edges.over hb,h.ne⟩
theorem zero_vert(u:World):(zeroValue 101).run Tryz.prog u=.ok (vertV noVert) u:=by kernel_rfl
theorem rowVert:RowT Tryz.prog 101 9:=rowT_of Tryz.underlying101 rfl (by kernel_rfl)
def optV(x:Option VertM):VertM:=x.getD noVert
theorem vecM_nil:vecM []=fun _=>0:=by funext a;simp [vecM]
theorem vertM_nil:vertM []=fun _=>none:=by funext v;simp [vertM,vertOp]
theorem edgeM_nil:edgeM []=fun _=>none:=by funext e;simp [edgeM,hasE]
theorem vecL_zero:vecL (fun _=>0)=List.replicate 64 (.int .u16 0):=by unfold vecL;rw [List.map_const'];simp
def NewRes(w:World)(e:Ending)(w':World):Prop:=∃ b bv be,e=.returned (.pointer (some ⟨b,0,none⟩))∧w.heap.size≤b∧w.heap.size≤bv∧w.heap.size≤be∧GrW w' b bv be 0 (vecM []) (vertM []) (edgeM [])∧Be w w'
theorem TMap.made_at{P:Program}{k:TypeId}{κ ν:Type}{kenc:κ→Value}{ok:κ→Prop}{venc:ν→Value}{w:World}{b:Nat}(h:w.heap[b]? = some (.map #[] 0)):TMap P k kenc ok venc w b 0 (fun _=>none):=by
 have h0:TMap P k kenc ok venc (({w with heap:=w.heap.extract 0 0}:World).alloc (.map #[] 0)) ({w with heap:=w.heap.extract 0 0}:World).heap.size 0 (fun _=>none):=TMap.made _;obtain⟨D,⟨es,clock,h1,h2⟩,h3⟩:=h0;have e1:=(MapKept.heap_alloc ({w with heap:=w.heap.extract 0 0}:World) (.map #[] 0)).1;rw [e1] at h1;cases h1
 exact⟨D,⟨#[],0,h,h2⟩,h3⟩
theorem gcells_new(a b:Nat):((Tryz.zeroCells118.setIfInBounds 64 (.map (some a))).setIfInBounds 65 (.map (some b))).toList=gCells (fun _=>0) a b:=by unfold gCells;rw [vecL_zero];rfl
theorem new_mk(w:World)(cs:Array Value)(e:TypeId)(h:cs.toList=gCells (fun _=>0) w.heap.size (w.heap.size+1)) :
  NewRes w (.returned (.pointer (some ⟨w.heap.size+1+1,0,none⟩))) (((w.alloc (.map #[] 0)).alloc (.map #[] 0)).alloc (.cells cs e)):=by
 have e1:((w.alloc (.map #[] 0)).alloc (.map #[] 0)).heap.size=w.heap.size+1+1:=by simp
 refine⟨_,w.heap.size,w.heap.size+1,rfl,(by omega),Nat.le_refl _,(by omega),⟨?_,?_,?_,by omega⟩,((bnew (w:=w) _).alloc (by simp) _).alloc (by simp;omega) _⟩
 · rw [vecM_nil,← h];exact arr_new3 w _ _ _ _
 · rw [vertM_nil];refine TMap.made_at ?_;rw [(MapKept.heap_alloc _ _).2 _ (by simp;omega),(MapKept.heap_alloc _ _).2 _ (by simp),(MapKept.heap_alloc _ _).1]
 rw [edgeM_nil];refine TMap.made_at ?_;rw [(MapKept.heap_alloc _ _).2 _ (by simp)];have:=(MapKept.heap_alloc (w.alloc (.map #[] 0)) (.map #[] 0)).1;simpa using this
theorem gnew_any(w:World):Calls Tryz.prog 32 #[] w (NewRes w):=by have hmm:=@run_makeMap Tryz.prog;go_enter Tryz.func32,Tryz.ntmps32;go_wp2;go_ret;exact new_mk w _ _ (gcells_new _ _)
section
variable{i:Nat}{o:OpM}{id:PidM}
def VertRes(w:World)(x:Option VertM)(e:Ending)(w':World):Prop:=e=.returned (.tuple #[vertV (optV x),.bool x.isSome])∧Be w w'
theorem vertRes_mk{w w':World}{x:Option VertM}{y:VertM}{q:Bool}(hy:x.getD noVert=y)(hq:x.isSome=q)(hb:Be w w'):VertRes w x (.returned (.tuple #[vertV y,.bool q])) w':=by subst hy;subst hq;exact⟨rfl,hb⟩
attribute [local irreducible] vecL gCells vertM optV
theorem gvert_any(b bv be n:Nat)(f:VecM)(vs:VidM→Option VertM)(es:EdgeM→Option VidM)(v:VidM)(w:World)(hg:GrW w b bv be n f vs es) :
  Calls Tryz.prog 78 #[.pointer (some ⟨b,0,none⟩),vidV v] w (VertRes w (vs v)):=by
 have hlt:=hg.arr.lt;have hvl:=hg.verts.lt;have HB:=Lh ((bnew (w:=w) (.cells (cV v) 74)).alloc (by simp) (.cells #[.int .u8 0,.int .u16 0,.int .u8 0,.int .u8 0,.int .u8 0,.int .u16 0,.int .u8 0,.string ⟨#[]⟩,.bool false] 101));have HV:=Lh ((anw w (cV v) 74).alloc (.cells #[.int .u8 0,.int .u16 0,.int .u8 0,.int .u8 0,.int .u8 0,.int .u16 0,.int .u8 0,.string ⟨#[]⟩,.bool false] 101));have HR:=Lh (an2 w (.cells (cV v) 74) #[.int .u8 0,.int .u16 0,.int .u8 0,.int .u8 0,.int .u8 0,.int .u16 0,.int .u8 0,.string ⟨#[]⟩,.bool false] 101);have HG:=Lh (hg.over HB.o);clear hg;unfold vidV;go_enter Tryz.func78,Tryz.ntmps78;go_upto_region 3 with fail;generalize (w.alloc (.cells (cV v) 74)).alloc (.cells #[.int .u8 0,.int .u16 0,.int .u8 0,.int .u8 0,.int .u8 0,.int .u16 0,.int .u8 0,.string ⟨#[]⟩,.bool false] 101)=w0 at *;obtain⟨v0,v1,v2,sv⟩:=HV.o.c3;obtain⟨r0,r1,r2,r3,r4,r5,r6,r7,r8,sr⟩:=HR.o.c9;have q0:=HR.o.free 0;have q1:=HR.o.free 1;have q2:=HR.o.free 2;have q3:=HR.o.free 3;have q4:=HR.o.free 4;have q5:=HR.o.free 5;have q6:=HR.o.free 6;have q7:=HR.o.free 7;have q8:=HR.o.free 8;have g64:=HG.o.arr.cell (gCells_v f bv be);have sg:=HG.o.arr.lt;have HLK:Hid (∀ x:Kept w0 (some w0.heap.size),(Instr.lookup 115 (.map (some bv)) (.agg (cV v)) true).run Tryz.prog x.1=.ok (.tuple #[vertV ((vs v).getD noVert),.bool (vs v).isSome]) x.1):=fun x =>TMap.look_ok keysVid vertV_inj (HG.o.verts.kept x.2 (by have:=HG.o.verts.lt;intro e;cases e;omega)) Tryz.underlying115 (zero_vert _) v trivial;generalize hy:(vs v).getD noVert=y at *;have HY:=Lh hy;generalize hq:(vs v).isSome=q at *;have HQ:=Lh hq;clear hy hq;have hlk:=HLK.o;unfold vertV at hlk;have nv:¬ w.heap.size=w0.heap.size:=by omega
 have nr:¬ w.heap.size+1=w0.heap.size:=by omega
 have ng:¬ b=w0.heap.size:=by omega
 clear HLK;have hcur:World.grownBy w0 w0.drew (some w0.heap.size):=⟨rfl,rfl,rfl,Nat.le_refl _,fun _ _ _=>rfl⟩;refine wlex (C:=IsKept w0 (some w0.heap.size)) 12 [] (by kernel_rfl) (by kernel_rfl) (isKept_of hcur) ?_;simp only [Tsc,Tz,Dsc,Dz];repeat(first|refine lxq ?_|(refine lxl rfl ?_;go_wp2_with (first|fail);refine⟨isKept_of (by first|exact hcur|exact only_alloc hcur _|exact gtr hcur (gsc _ _ _)|exact gtr (gtr hcur (gsc _ _ _)) (gsc _ _ _)),?_⟩))
 refine lxe ?_;clear hcur hlk;have HR1:=Lh ((HR.o.alloc (.cells (cX y) 101)).drew);have HY1:Hid (Arr ((w0.alloc (.cells (cX y) 101)).drew) w0.heap.size [.int .u8 y.id.pid.author.toNat,.int .u16 y.id.pid.seq.toNat,.int .u8 y.id.n.toNat,.int .u8 y.kind.toNat,.int .u8 y.file.pid.author.toNat,.int .u16 y.file.pid.seq.toNat,.int .u8 y.file.n.toNat,.string y.text,.bool y.dead]):=(anw w0 (cX y) 101).drew;have HB1:=Lh ((HB.o.alloc HB.o.size (.cells (cX y) 101)).drew);clear r0 r1 r2 r3 r4 r5 r6 r7 r8 q0 q1 q2 q3 q4 q5 q6 q7 q8 sr;generalize (w0.alloc (.cells (cX y) 101)).drew=w1 at *;obtain⟨r0,r1,r2,r3,r4,r5,r6,r7,r8,sr⟩:=HR1.o.c9;obtain⟨y0,y1,y2,y3,y4,y5,y6,y7,y8,sy⟩:=HY1.o.c9;have q0:=HR1.o.free 0;have q1:=HR1.o.free 1;have q2:=HR1.o.free 2;have q3:=HR1.o.free 3;have q4:=HR1.o.free 4;have q5:=HR1.o.free 5;have q6:=HR1.o.free 6;have q7:=HR1.o.free 7;have q8:=HR1.o.free 8;have HF:=Lh (((((((((HR1.o.set 0 (.int .u8 y.id.pid.author.toNat)).set 1 (.int .u16 y.id.pid.seq.toNat)).set 2 (.int .u8 y.id.n.toNat)).set 3 (.int .u8 y.kind.toNat)).set 4 (.int .u8 y.file.pid.author.toNat)).set 5 (.int .u16 y.file.pid.seq.toNat)).set 6 (.int .u8 y.file.n.toNat)).set 7 (.string y.text)).set 8 (.bool y.dead));have HBF:=Lh (((((((((HB1.o.setCell (p:=⟨w.heap.size+1,0,none⟩) (by simp) (.int .u8 y.id.pid.author.toNat)).setCell (p:=⟨w.heap.size+1,1,none⟩) (by simp) (.int .u16 y.id.pid.seq.toNat)).setCell (p:=⟨w.heap.size+1,2,none⟩) (by simp) (.int .u8 y.id.n.toNat)).setCell (p:=⟨w.heap.size+1,3,none⟩) (by simp) (.int .u8 y.kind.toNat)).setCell (p:=⟨w.heap.size+1,4,none⟩) (by simp) (.int .u8 y.file.pid.author.toNat)).setCell (p:=⟨w.heap.size+1,5,none⟩) (by simp) (.int .u16 y.file.pid.seq.toNat)).setCell (p:=⟨w.heap.size+1,6,none⟩) (by simp) (.int .u8 y.file.n.toNat)).setCell (p:=⟨w.heap.size+1,7,none⟩) (by simp) (.string y.text)).setCell (p:=⟨w.heap.size+1,8,none⟩) (by simp) (.bool y.dead));go_wp2_with fail;exact bodyPost_ret (v:=.tuple #[vertV y,.bool q]) (rasl rowVert rfl HF.o rfl rfl rfl) rfl (vertRes_mk HY.o HQ.o HBF.o)
theorem madeV_file{p:PatchM}(h:o.kind.toNat=1):madeV p i o=⟨⟨p.id,UInt8.ofNat i⟩,o.kind,⟨p.id,UInt8.ofNat i⟩,o.text,false⟩:=by unfold madeV fileOf;have:o.kind=1:=(u8_nat _ 1 (by omega)).2 h;rw [if_pos this]
theorem madeV_else{p:PatchM}(h:¬ o.kind.toNat=1):madeV p i o=⟨⟨p.id,UInt8.ofNat i⟩,o.kind,o.at',o.text,false⟩:=by unfold madeV fileOf;have:¬ o.kind=1:=fun e=>h ((u8_nat _ 1 (by omega)).1 e);rw [if_neg this]
def madeX(id:PidM)(i:Nat)(o:OpM):VertM:=⟨⟨id,UInt8.ofNat i⟩,o.kind,fileOf ⟨id,UInt8.ofNat i⟩ o,o.text,false⟩
theorem madeX_file(h:o.kind.toNat=1):madeX id i o=⟨⟨id,UInt8.ofNat i⟩,o.kind,⟨id,UInt8.ofNat i⟩,o.text,false⟩:=madeV_file (p:=⟨id,[],[]⟩) h
theorem madeX_else(h:¬ o.kind.toNat=1):madeX id i o=⟨⟨id,UInt8.ofNat i⟩,o.kind,o.at',o.text,false⟩:=madeV_else (p:=⟨id,[],[]⟩) h
def MadeRes(w:World)(x:VertM)(e:Ending)(w':World):Prop:=e=.returned (vertV x)∧Be w w'
theorem made_mk{w w':World}{x:VertM}(h:madeX id i o=x)(hb:Be w w'):MadeRes w (madeX id i o) (.returned (vertV x)) w':=by rw [h];exact⟨rfl,hb⟩
attribute [local irreducible] madeX
theorem gmade_any(id:PidM)(dv ov:Value)(ops:List OpM)(i:Nat)(o:OpM)(w:World)(hv:GRow encOp 8 w ov ops)(ho:ops[i]? = some o)(hl:ops.length≤40000) :
  Calls Tryz.prog 66 #[patV id dv ov,.int .i64 i] w (MadeRes w (madeX id i o)):=by
 have hlt:=(List.getElem?_eq_some_iff.1 ho).1;obtain⟨a,cap,rfl,h1,h2,hc⟩:=hv.at encOp_len;unfold maxLen at h2;have HC:=Lh hc;have HP:=Lh ((anw w #[.int .u8 id.author.toNat,.int .u16 id.seq.toNat,dv,.slice a ops.length cap] 44).alloc (.cells #[.int .u8 0,.int .u16 0,.int .u8 0,.int .u8 0,.int .u8 0,.int .u16 0,.int .u8 0,.string ⟨#[]⟩,.bool false] 101));have HR:=Lh (an2 w (.cells #[.int .u8 id.author.toNat,.int .u16 id.seq.toNat,dv,.slice a ops.length cap] 44) #[.int .u8 0,.int .u16 0,.int .u8 0,.int .u8 0,.int .u8 0,.int .u16 0,.int .u8 0,.string ⟨#[]⟩,.bool false] 101);have HB:=Lh ((bnew (w:=w) (.cells #[.int .u8 id.author.toNat,.int .u16 id.seq.toNat,dv,.slice a ops.length cap] 44)).alloc (by simp) (.cells #[.int .u8 0,.int .u16 0,.int .u8 0,.int .u8 0,.int .u8 0,.int .u16 0,.int .u8 0,.string ⟨#[]⟩,.bool false] 101));have HOo:=Lh ho;have HI:Hid (((UInt8.ofNat i).toNat:Int)=(i:Int) % 256):=Lh (by simp);clear hv hc ho;unfold patV;go_enter Tryz.func66,Tryz.ntmps66;go_upto_region 1 with fail;generalize (w.alloc (.cells #[.int .u8 id.author.toNat,.int .u16 id.seq.toNat,dv,.slice a ops.length cap] 44)).alloc (.cells #[.int .u8 0,.int .u16 0,.int .u8 0,.int .u8 0,.int .u8 0,.int .u16 0,.int .u8 0,.string ⟨#[]⟩,.bool false] 101)=w0 at *;obtain⟨b,off,rfl,sb,hcb⟩:=HC.o.resolve_left (by omega);have HCo:=Lh (hcb i o HOo.o w0 HB.o);clear hcb;obtain⟨p0,p1,p2,p3,sp⟩:=HP.o.c4;obtain⟨o0,o1,o2,o3,o4,o5,o6,o7,so⟩:=rc8 HCo.o;have HO:Hid (Arr (w0.alloc (.cells (cO o) 76)) w0.heap.size [.int .u8 o.kind.toNat,.int .u8 o.at'.pid.author.toNat,.int .u16 o.at'.pid.seq.toNat,.int .u8 o.at'.n.toNat,.int .u8 o.to.pid.author.toNat,.int .u16 o.to.pid.seq.toNat,.int .u8 o.to.n.toNat,.string o.text]):=anw _ _ _;have HB1:=Lh (HB.o.alloc HB.o.size (.cells (cO o) 76));have HP1:=Lh (HP.o.alloc (.cells (cO o) 76));have HR1:=Lh (HR.o.alloc (.cells (cO o) 76));go_upto_region 2 with fail;generalize w0.alloc (.cells (cO o) 76)=w1 at *;clear o0 o1 o2 o3 o4 o5 o6 o7 so p0 p1 p2 p3 sp;obtain⟨o0,o1,o2,o3,o4,o5,o6,o7,so⟩:=HO.o.c8;obtain⟨p0,p1,p2,p3,sp⟩:=HP1.o.c4;have HS:Hid (∀ w':World,Be w1 w'→(w'.cell? ⟨w0.heap.size,0,none⟩=some (.int .u8 o.kind.toNat)∧w'.cell? ⟨w0.heap.size,1,none⟩=some (.int .u8 o.at'.pid.author.toNat)∧w'.cell? ⟨w0.heap.size,2,none⟩=some (.int .u16 o.at'.pid.seq.toNat)∧w'.cell? ⟨w0.heap.size,3,none⟩=some (.int .u8 o.at'.n.toNat)∧w'.cell? ⟨w0.heap.size,7,none⟩=some (.string o.text)∧w'.cell? ⟨w.heap.size,0,none⟩=some (.int .u8 id.author.toNat)∧w'.cell? ⟨w.heap.size,1,none⟩=some (.int .u16 id.seq.toNat)∧Be w1 w')):=fun w' hb=>⟨(hb.cell (p:=⟨w0.heap.size,0,none⟩) so).trans o0,(hb.cell (p:=⟨w0.heap.size,1,none⟩) so).trans o1,(hb.cell (p:=⟨w0.heap.size,2,none⟩) so).trans o2,(hb.cell (p:=⟨w0.heap.size,3,none⟩) so).trans o3,(hb.cell (p:=⟨w0.heap.size,7,none⟩) so).trans o7,(hb.cell (p:=⟨w.heap.size,0,none⟩) sp).trans p0,(hb.cell (p:=⟨w.heap.size,1,none⟩) sp).trans p1,hb⟩;go_cut [6] (fun s6 wx=>∃ g2,s6=.pointer (some ⟨g2,0,none⟩)∧Hid (Arr wx g2 [.int .u8 id.author.toNat,.int .u16 id.seq.toNat,.int .u8 ((i:Int) % 256),.int .u8 o.kind.toNat,.int .u8 o.at'.pid.author.toNat,.int .u16 o.at'.pid.seq.toNat,.int .u8 o.at'.n.toNat,.string o.text,.bool false])∧Hid (Be w1 wx)∧w1.heap.size≤g2)
 case first =>
  go_region_held3 (fun w'=>w'.cell? ⟨w0.heap.size,0,none⟩=some (.int .u8 o.kind.toNat)∧w'.cell? ⟨w0.heap.size,1,none⟩=some (.int .u8 o.at'.pid.author.toNat)∧w'.cell? ⟨w0.heap.size,2,none⟩=some (.int .u16 o.at'.pid.seq.toNat)∧w'.cell? ⟨w0.heap.size,3,none⟩=some (.int .u8 o.at'.n.toNat)∧w'.cell? ⟨w0.heap.size,7,none⟩=some (.string o.text)∧w'.cell? ⟨w.heap.size,0,none⟩=some (.int .u8 id.author.toNat)∧w'.cell? ⟨w.heap.size,1,none⟩=some (.int .u16 id.seq.toNat)∧Be w1 w') ((refine HS.o _ ?_;(with_reducible (first|exact(Below.refl _ _).drew|exact HBk.o|exact HBk.o.alloc HBk.o.size _|exact((Below.refl w1.heap.size w1).alloc (Nat.le_refl _) _).drew|exact(((((((((HBk.o.setCell (p:=⟨w1.heap.size,0,none⟩) (Nat.le_refl _) _).setCell (p:=⟨w1.heap.size,1,none⟩) (Nat.le_refl _) _).setCell (p:=⟨w1.heap.size,2,none⟩) (Nat.le_refl _) _).setCell (p:=⟨w1.heap.size,3,none⟩) (Nat.le_refl _) _).setCell (p:=⟨w1.heap.size,4,none⟩) (Nat.le_refl _) _).setCell (p:=⟨w1.heap.size,5,none⟩) (Nat.le_refl _) _).setCell (p:=⟨w1.heap.size,6,none⟩) (Nat.le_refl _) _).setCell (p:=⟨w1.heap.size,7,none⟩) (Nat.le_refl _) _).setCell (p:=⟨w1.heap.size,8,none⟩) (Nat.le_refl _) _)))))
   (first|(go_at_call 95;refine(pvid_any id i _ (by omega)).mono ?_;rintro e w2 ⟨rfl,hb⟩;have HBk:Hid (Be w1 w2):=(by show Be w1 w2;with_reducible (first|exact bov (Below.refl w1.heap.size w1).drew (Nat.le_refl _) hb|exact bov (((Below.refl w1.heap.size w1).alloc (Nat.le_refl _) _).drew) (Below.size (((Below.refl w1.heap.size w1).alloc (Nat.le_refl _) _).drew)) hb));have HBb:=Lh hb;obtain⟨hcc,hff⟩:=bcell hb;clear hb))
  ·
   rename_i J K hJ hK hHeld;clear hHeld;refine hK _ _ (Met.intro (hJ _ _ ?_))
   (repeat apply Exists.intro)
   refine⟨?_,rfl⟩;exact⟨_,rfl,Lh (anw _ _ _),Lh (HBk.o.alloc HBk.o.size _),HBk.o.size⟩
  rename_i J K hJ hK hHeld;clear hHeld;refine hK _ _ (Met.intro (hJ _ _ ?_))
  (repeat apply Exists.intro)
  refine⟨?_,rfl⟩;have HZ:Hid (Arr w2 w1.heap.size [.int .u8 0,.int .u16 0,.int .u8 0,.int .u8 0,.int .u8 0,.int .u16 0,.int .u8 0,.string ⟨#[]⟩,.bool false]):=(((anw w1 #[.int .u8 0,.int .u16 0,.int .u8 0,.int .u8 0,.int .u8 0,.int .u16 0,.int .u8 0,.string ⟨#[]⟩,.bool false] 101).drew).over HBb.o);exact⟨_,rfl,Lh (((((((((HZ.o.set 0 (.int .u8 id.author.toNat)).set 1 (.int .u16 id.seq.toNat)).set 2 (.int .u8 ((i:Int) % 256))).set 3 (.int .u8 o.kind.toNat)).set 4 (.int .u8 o.at'.pid.author.toNat)).set 5 (.int .u16 o.at'.pid.seq.toNat)).set 6 (.int .u8 o.at'.n.toNat)).set 7 (.string o.text)).set 8 (.bool false)),Lh (((((((((HBk.o.setCell (p:=⟨w1.heap.size,0,none⟩) (Nat.le_refl _) (.int .u8 id.author.toNat)).setCell (p:=⟨w1.heap.size,1,none⟩) (Nat.le_refl _) (.int .u16 id.seq.toNat)).setCell (p:=⟨w1.heap.size,2,none⟩) (Nat.le_refl _) (.int .u8 ((i:Int) % 256))).setCell (p:=⟨w1.heap.size,3,none⟩) (Nat.le_refl _) (.int .u8 o.kind.toNat)).setCell (p:=⟨w1.heap.size,4,none⟩) (Nat.le_refl _) (.int .u8 o.at'.pid.author.toNat)).setCell (p:=⟨w1.heap.size,5,none⟩) (Nat.le_refl _) (.int .u16 o.at'.pid.seq.toNat)).setCell (p:=⟨w1.heap.size,6,none⟩) (Nat.le_refl _) (.int .u8 o.at'.n.toNat)).setCell (p:=⟨w1.heap.size,7,none⟩) (Nat.le_refl _) (.string o.text)).setCell (p:=⟨w1.heap.size,8,none⟩) (Nat.le_refl _) (.bool false)),Nat.le_refl _⟩
 obtain⟨g2,rfl,HV0,HBx,hg2⟩:=hcut;rename World=>w3;rw [← HI.o] at HV0;have HV2:Hid (Arr w3 g2 [.int .u8 id.author.toNat,.int .u16 id.seq.toNat,.int .u8 ((UInt8.ofNat i).toNat:Int),.int .u8 o.kind.toNat,.int .u8 o.at'.pid.author.toNat,.int .u16 o.at'.pid.seq.toNat,.int .u8 o.at'.n.toNat,.string o.text,.bool false]):=HV0;have HO2:=Lh (HO.o.below HBx.o so);have HR2:=Lh (HR1.o.below HBx.o HR1.o.lt);have HB2:=Lh (bvo HB1.o HBx.o);have nr2:w.heap.size+1≠g2:=by have:=HR1.o.lt;omega
 have hw2:w.heap.size≤g2:=Nat.le_trans HB1.o.size hg2;have ng2:¬ w0.heap.size=g2:=by omega
 clear o0 o1 o2 o3 o4 o5 o6 o7 so p0 p1 p2 p3 sp HS HCo HOo HC HP HP1;obtain⟨o0,o1,o2,o3,o4,o5,o6,o7,so⟩:=HO2.o.c8;obtain⟨x0,x1,x2,x3,x4,x5,x6,x7,x8,sx⟩:=HV2.o.c9;obtain⟨r0,r1,r2,r3,r4,r5,r6,r7,r8,sr⟩:=HR2.o.c9;have y0:=HV2.o.free 0;have y1:=HV2.o.free 1;have y2:=HV2.o.free 2;have y3:=HV2.o.free 3;have y4:=HV2.o.free 4;have y5:=HV2.o.free 5;have y6:=HV2.o.free 6;have y7:=HV2.o.free 7;have y8:=HV2.o.free 8;have q0:=HR2.o.free 0;have q1:=HR2.o.free 1;have q2:=HR2.o.free 2;have q3:=HR2.o.free 3;have q4:=HR2.o.free 4;have q5:=HR2.o.free 5;have q6:=HR2.o.free 6;have q7:=HR2.o.free 7;have q8:=HR2.o.free 8
 by_cases h1:o.kind.toNat=1
 ·
  have d1:((o.kind.toNat:Int) == 1)=true:=by simp;omega
  have HM:=Lh (madeX_file (id:=id) (i:=i) h1);have HF:=Lh ((((((((((((HR2.o.set_other (a:=⟨g2,4,none⟩) nr2 (.int .u8 id.author.toNat)).set_other (a:=⟨g2,5,none⟩) nr2 (.int .u16 id.seq.toNat)).set_other (a:=⟨g2,6,none⟩) nr2 (.int .u8 ((UInt8.ofNat i).toNat:Int))).set 0 (.int .u8 id.author.toNat)).set 1 (.int .u16 id.seq.toNat)).set 2 (.int .u8 ((UInt8.ofNat i).toNat:Int))).set 3 (.int .u8 o.kind.toNat)).set 4 (.int .u8 id.author.toNat)).set 5 (.int .u16 id.seq.toNat)).set 6 (.int .u8 ((UInt8.ofNat i).toNat:Int))).set 7 (.string o.text)).set 8 (.bool false));have HBF:=Lh ((((((((((((HB2.o.setCell (p:=⟨g2,4,none⟩) hw2 (.int .u8 id.author.toNat)).setCell (p:=⟨g2,5,none⟩) hw2 (.int .u16 id.seq.toNat)).setCell (p:=⟨g2,6,none⟩) hw2 (.int .u8 ((UInt8.ofNat i).toNat:Int))).setCell (p:=⟨w.heap.size+1,0,none⟩) (by simp) (.int .u8 id.author.toNat)).setCell (p:=⟨w.heap.size+1,1,none⟩) (by simp) (.int .u16 id.seq.toNat)).setCell (p:=⟨w.heap.size+1,2,none⟩) (by simp) (.int .u8 ((UInt8.ofNat i).toNat:Int))).setCell (p:=⟨w.heap.size+1,3,none⟩) (by simp) (.int .u8 o.kind.toNat)).setCell (p:=⟨w.heap.size+1,4,none⟩) (by simp) (.int .u8 id.author.toNat)).setCell (p:=⟨w.heap.size+1,5,none⟩) (by simp) (.int .u16 id.seq.toNat)).setCell (p:=⟨w.heap.size+1,6,none⟩) (by simp) (.int .u8 ((UInt8.ofNat i).toNat:Int))).setCell (p:=⟨w.heap.size+1,7,none⟩) (by simp) (.string o.text)).setCell (p:=⟨w.heap.size+1,8,none⟩) (by simp) (.bool false));clear h1;go_wp2_with fail;exact bodyPost_ret (v:=vertV ⟨⟨id,UInt8.ofNat i⟩,o.kind,⟨id,UInt8.ofNat i⟩,o.text,false⟩) (results_arr rowVert rfl HF.o rfl rfl) rfl (made_mk HM.o HBF.o)
 have d1:((o.kind.toNat:Int) == 1)=false:=by simp;omega
 have HM:=Lh (madeX_else (id:=id) (i:=i) h1);have HF:=Lh (((((((((HR2.o.set 0 (.int .u8 id.author.toNat)).set 1 (.int .u16 id.seq.toNat)).set 2 (.int .u8 ((UInt8.ofNat i).toNat:Int))).set 3 (.int .u8 o.kind.toNat)).set 4 (.int .u8 o.at'.pid.author.toNat)).set 5 (.int .u16 o.at'.pid.seq.toNat)).set 6 (.int .u8 o.at'.n.toNat)).set 7 (.string o.text)).set 8 (.bool false));have HBF:=Lh (((((((((HB2.o.setCell (p:=⟨w.heap.size+1,0,none⟩) (by simp) (.int .u8 id.author.toNat)).setCell (p:=⟨w.heap.size+1,1,none⟩) (by simp) (.int .u16 id.seq.toNat)).setCell (p:=⟨w.heap.size+1,2,none⟩) (by simp) (.int .u8 ((UInt8.ofNat i).toNat:Int))).setCell (p:=⟨w.heap.size+1,3,none⟩) (by simp) (.int .u8 o.kind.toNat)).setCell (p:=⟨w.heap.size+1,4,none⟩) (by simp) (.int .u8 o.at'.pid.author.toNat)).setCell (p:=⟨w.heap.size+1,5,none⟩) (by simp) (.int .u16 o.at'.pid.seq.toNat)).setCell (p:=⟨w.heap.size+1,6,none⟩) (by simp) (.int .u8 o.at'.n.toNat)).setCell (p:=⟨w.heap.size+1,7,none⟩) (by simp) (.string o.text)).setCell (p:=⟨w.heap.size+1,8,none⟩) (by simp) (.bool false));clear h1;go_wp2_with fail;exact bodyPost_ret (v:=vertV ⟨⟨id,UInt8.ofNat i⟩,o.kind,o.at',o.text,false⟩) (results_arr rowVert rfl HF.o rfl rfl) rfl (made_mk HM.o HBF.o)
end
section
variable{ops:List OpM}{id:PidM}{v:VidM}{vs:VidM→Option VertM}
def lookX(vs:VidM→Option VertM)(id:PidM)(ops:List OpM)(v:VidM):Option VertM:=
 if v.pid=id then(match ops[v.n.toNat]? with|some o=>if makesB o.kind=true then some (madeX id v.n.toNat o) else none|none=>none) else vs v
theorem look_far(h:¬ v.pid=id):lookX vs id ops v=vs v:=by unfold lookX;rw [if_neg h]
theorem look_out(h:v.pid=id)(hn:¬ v.n.toNat<ops.length):lookX vs id ops v=none:=by unfold lookX;rw [if_pos h,List.getElem?_eq_none (by omega)]
theorem look_no{o:OpM}(h:v.pid=id)(ho:ops[v.n.toNat]? = some o)(hm:makesB o.kind=false):lookX vs id ops v=none:=by unfold lookX;rw [if_pos h,ho];simp [hm]
theorem look_yes{o:OpM}(h:v.pid=id)(ho:ops[v.n.toNat]? = some o)(hm:makesB o.kind=true):lookX vs id ops v=some (madeX id v.n.toNat o):=by unfold lookX;rw [if_pos h,ho];simp [hm]
theorem lookX_eq(L:List PatchM)(p:PatchM)(v:VidM):lookX (vertM L) p.id p.ops v=lookM L p v:=by
 have e:UInt8.ofNat v.n.toNat=v.n:=by simp
 unfold lookX lookM madeBy
 by_cases h:v.pid=p.id
 ·
  rw [if_pos h,if_pos h,if_pos h.symm];cases hq:p.ops[v.n.toNat]? with
  | none=>simp
  | some o =>
   cases hm:makesB o.kind with
   | false=>simp [hm,Option.filter]
   | true =>simp only [hm,if_true,Option.filter,Option.map_some];unfold madeX;rw [e,← h]
 rw [if_neg h,if_neg h]
theorem vertRes_of{w w':World}{X x:Option VertM}{y:VertM}{q:Bool}(hk:X=x)(hy:x.getD noVert=y)(hq:x.isSome=q)(hb:Be w w'):VertRes w X (.returned (.tuple #[vertV y,.bool q])) w':=by subst hk;exact vertRes_mk hy hq hb
attribute [local irreducible] vecL gCells lookX madeX
theorem glook_any(b bv be n:Nat)(f:VecM)(vs:VidM→Option VertM)(es:EdgeM→Option VidM)(id:PidM)(dv ov:Value)(ops:List OpM)(v:VidM)(w:World)(hg:GrW w b bv be n f vs es)(hv:GRow encOp 8 w ov ops)(hl:ops.length≤40000) :
  Calls Tryz.prog 202 #[.pointer (some ⟨b,0,none⟩),patV id dv ov,vidV v] w (VertRes w (lookX vs id ops v)):=by
 have HV:=Lh hv;obtain⟨a,cap,rfl,h1,h2,hc⟩:=hv.at encOp_len;unfold maxLen at h2;have HC:=Lh hc;have HP:=Lh (((anw w #[.int .u8 id.author.toNat,.int .u16 id.seq.toNat,dv,.slice a ops.length cap] 44).alloc (.cells (cV v) 74)).alloc (.cells #[.int .u8 0,.int .u16 0,.int .u8 0,.int .u8 0,.int .u8 0,.int .u16 0,.int .u8 0,.string ⟨#[]⟩,.bool false] 101));have HVd:=Lh ((an2 w (.cells #[.int .u8 id.author.toNat,.int .u16 id.seq.toNat,dv,.slice a ops.length cap] 44) (cV v) 74).alloc (.cells #[.int .u8 0,.int .u16 0,.int .u8 0,.int .u8 0,.int .u8 0,.int .u16 0,.int .u8 0,.string ⟨#[]⟩,.bool false] 101));have HR:=Lh (arr_new3 w (.cells #[.int .u8 id.author.toNat,.int .u16 id.seq.toNat,dv,.slice a ops.length cap] 44) (.cells (cV v) 74) #[.int .u8 0,.int .u16 0,.int .u8 0,.int .u8 0,.int .u8 0,.int .u16 0,.int .u8 0,.string ⟨#[]⟩,.bool false] 101);have HB:=Lh (((bnew (w:=w) (.cells #[.int .u8 id.author.toNat,.int .u16 id.seq.toNat,dv,.slice a ops.length cap] 44)).alloc (by simp) (.cells (cV v) 74)).alloc (by simp;omega) (.cells #[.int .u8 0,.int .u16 0,.int .u8 0,.int .u8 0,.int .u8 0,.int .u16 0,.int .u8 0,.string ⟨#[]⟩,.bool false] 101));have HG:=Lh (hg.over HB.o);have gd:=fun p q xs ys w=>guard_pid .neq p q xs ys w;have hnl:=v.n.toNat_lt;clear hv hc hg;unfold patV vidV;go_enter Tryz.func202,Tryz.ntmps202;go_upto_region 1 with fail;generalize ((w.alloc (.cells #[.int .u8 id.author.toNat,.int .u16 id.seq.toNat,dv,.slice a ops.length cap] 44)).alloc (.cells (cV v) 74)).alloc (.cells #[.int .u8 0,.int .u16 0,.int .u8 0,.int .u8 0,.int .u8 0,.int .u16 0,.int .u8 0,.string ⟨#[]⟩,.bool false] 101)=w0 at *;obtain⟨p0,p1,p2,p3,sp⟩:=HP.o.c4;obtain⟨v0,v1,v2,sv⟩:=HVd.o.c3
 by_cases hp:v.pid=id
 rotate_left
 · have e1:=neq_pid v.pid id true (by simp [hp]);unfold pidV at e1;have HK:=Lh (look_far (vs:=vs) (ops:=ops) hp);clear hp;generalize hx:vs v=x at *;go_wp2_with (first|(go_at_call 78;(with_reducible refine(hx▸gvert_any b bv be n f vs es v _ (HG.o.over (Below.refl _ _))).mono ?_);rintro e w2 ⟨rfl,hb⟩;have HR2:=Lh (HR.o.over hb);have HB2:=Lh (bvo HB.o hb);clear hb)|((with_reducible show wpList _ _ _ ({dst:=_,op:=.store _ _ _,type:=_,pos:=_,after:=_,guard:=_} :: _) _ _);refine wpList_store_arr rowVert rfl _ _ rfl _ _ (encVert (optV x)) HR2.o rfl rfl rfl rfl rfl ?_));exact bodyPost_ret (v:=.tuple #[vertV (optV x),.bool x.isSome]) (rasl rowVert rfl (HR2.o.row (encVert (optV x))) rfl rfl rfl) rfl (vertRes_of HK.o rfl rfl (below_setRow HB2.o (by omega) _))
 have e1:=neq_pid v.pid id false (by simp [hp]);unfold pidV at e1
 by_cases hn:v.n.toNat<ops.length
 rotate_left
 ·
  have e2:decide (ops.length≤v.n.toNat)=true:=by simp;omega
  have HK:=Lh (look_out (vs:=vs) hp hn);clear hp hn;go_wp2_with (first|((with_reducible show wpList _ _ _ ({dst:=_,op:=.store _ _ _,type:=_,pos:=_,after:=_,guard:=_} :: _) _ _);refine wpList_store_arr rowVert rfl _ _ rfl _ _ (encVert noVert) HR.o rfl rfl rfl rfl rfl ?_));exact bodyPost_ret (v:=.tuple #[vertV noVert,.bool false]) (rasl rowVert rfl (HR.o.row (encVert noVert)) rfl rfl rfl) rfl (vertRes_of HK.o rfl rfl (below_setRow HB.o (by omega) _))
 have e2:decide (ops.length≤v.n.toNat)=false:=by simp;omega
 have e3:decide (v.n.toNat<ops.length)=true:=by simpa using hn
 obtain⟨b',off,rfl,sb,hcb⟩:=HC.o.resolve_left (by omega);obtain⟨o,ho⟩:=get_op hn;have HO:=Lh (hcb v.n.toNat o ho w0 HB.o);have o0:w0.cell? ⟨b',off+v.n.toNat*8,none⟩=some (.int .u8 o.kind.toNat):=HO.o.2 0 _ rfl;have so:=HO.o.1;have HOo:=Lh ho;have HV0:=Lh (HV.o.over HB.o);clear hcb HC HV;cases hmk:makesB o.kind with
 | false =>have HK:=Lh (look_no (vs:=vs) hp ho hmk);have HMK:=Lh hmk;clear hp ho hmk;go_wp2_with (first|(go_at_call 65;(with_reducible refine(pmakes_any o.kind _).mono ?_);rintro e w9 ⟨rfl,rfl⟩;rw [HMK.o])|((with_reducible show wpList _ _ _ ({dst:=_,op:=.store _ _ _,type:=_,pos:=_,after:=_,guard:=_} :: _) _ _);refine wpList_store_arr rowVert rfl _ _ rfl _ _ (encVert noVert) HR.o rfl rfl rfl rfl rfl ?_));exact bodyPost_ret (v:=.tuple #[vertV noVert,.bool false]) (rasl rowVert rfl (HR.o.row (encVert noVert)) rfl rfl rfl) rfl (vertRes_of HK.o rfl rfl (below_setRow HB.o (by omega) _))
 | true =>have HK:=Lh (look_yes (vs:=vs) hp ho hmk);have HMK:=Lh hmk;clear hp ho hmk;generalize hy:madeX id v.n.toNat o=y at *;go_wp2_with (first|(go_at_call 65;(with_reducible refine(pmakes_any o.kind _).mono ?_);rintro e w9 ⟨rfl,rfl⟩;rw [HMK.o])|(go_at_call 66;(with_reducible refine(hy▸gmade_any id dv _ ops v.n.toNat o _ HV0.o HOo.o hl).mono ?_);rintro e w2 ⟨rfl,hb⟩;have HR2:=Lh (HR.o.over hb);have HB2:=Lh (bvo HB.o hb);clear hb)|((with_reducible show wpList _ _ _ ({dst:=_,op:=.store _ _ _,type:=_,pos:=_,after:=_,guard:=_} :: _) _ _);refine wpList_store_arr rowVert rfl _ _ rfl _ _ (encVert y) HR2.o rfl rfl rfl rfl rfl ?_));exact bodyPost_ret (v:=.tuple #[vertV y,.bool true]) (rasl rowVert rfl (HR2.o.row (encVert y)) rfl rfl rfl) rfl (vertRes_of HK.o rfl rfl (below_setRow HB2.o (by omega) _))
end
variable{x z:Option VertM}
def refsK(x z:Option VertM)(k:Nat):Bool:=
 if k=2∨k=3 then isK x 1
 else if k=5 then x.isSome
 else if k=4 then isK x 3 && (isK z 3 && decide (x.map (·.file)=z.map (·.file)))
 else true
theorem refsK_eq(L:List PatchM)(p:PatchM)(o:OpM):refsK (lookX (vertM L) p.id p.ops o.at') (lookX (vertM L) p.id p.ops o.to) o.kind.toNat=refsB L p o:=by
 rw [lookX_eq,lookX_eq];unfold refsK refsB;have e (k:UInt8) (n:Nat) (h:k.toNat=n):(o.kind.toNat=n)↔(o.kind=k):=by rw [← h];exact UInt8.toNat_inj
 simp only [e 2 2 rfl,e 3 3 rfl,e 4 4 rfl,e 5 5 rfl]
theorem isK_no(k:UInt8)(h:x.isSome=false):isK x k=false:=by cases x <;> simp_all [isK]
theorem isK_yes{k:UInt8}(h:x.isSome=true):isK x k=decide ((optV x).kind=k):=by cases x with|none=>simp at h|some v=>rw [Bool.eq_iff_iff];simp [isK,optV];exact⟨fun h=>decide_eq_true h,fun h=>of_decide_eq_true h⟩
theorem refsK_1{k:Nat}(h:k=2∨k=3):refsK x z k=isK x 1:=by unfold refsK;rw [if_pos h]
theorem refsK_5:refsK x z 5=x.isSome:=by unfold refsK;simp
theorem refsK_4:refsK x z 4=(isK x 3 && (isK z 3 && decide (x.map (·.file)=z.map (·.file)))):=by unfold refsK;simp
theorem refsK_0{k:Nat}(h:¬ k=2)(h3:¬ k=3)(h5:¬ k=5)(h4:¬ k=4):refsK x z k=true:=by unfold refsK;simp [h,h3,h4,h5]
theorem file_eq(h:x.isSome=true)(h':z.isSome=true):decide (x.map (·.file)=z.map (·.file))=decide ((optV x).file=(optV z).file):=by
 cases x with
 | none=>simp at h
 | some a=>cases z with
  | none=>simp at h'
  | some b=>rw [Bool.eq_iff_iff];simp [optV];exact⟨fun h=>decide_eq_true h,fun h=>of_decide_eq_true h⟩
theorem kind_nat{x:VertM}{n:Nat}{k:UInt8}(h:k.toNat=n):((x.kind.toNat:Int) == (n:Int))=decide (x.kind=k):=by rw [← h,Bool.eq_iff_iff];simp [← UInt8.toNat_inj];omega
attribute [local irreducible] vecL gCells lookX madeX optV refsK isK
theorem grefs_any(b bv be n:Nat)(f:VecM)(vs:VidM→Option VertM)(es:EdgeM→Option VidM)(id:PidM)(dv ov:Value)(ops:List OpM)(o:OpM)(w:World)(hg:GrW w b bv be n f vs es)(hv:GRow encOp 8 w ov ops)(hl:ops.length≤40000) :
  Calls Tryz.prog 125 #[.pointer (some ⟨b,0,none⟩),patV id dv ov,opV o] w fun e w'=>e=.returned (.bool (refsK (lookX vs id ops o.at') (lookX vs id ops o.to) o.kind.toNat))∧Be w w':=by
 have HV:=Lh hv;obtain⟨a,cap,rfl,h1,h2,hc⟩:=hv.at encOp_len;unfold maxLen at h2;have HP:=Lh ((anw w #[.int .u8 id.author.toNat,.int .u16 id.seq.toNat,dv,.slice a ops.length cap] 44).alloc (.cells (cO o) 76));have HO:=Lh (an2 w (.cells #[.int .u8 id.author.toNat,.int .u16 id.seq.toNat,dv,.slice a ops.length cap] 44) (cO o) 76);have HB:=Lh ((bnew (w:=w) (.cells #[.int .u8 id.author.toNat,.int .u16 id.seq.toNat,dv,.slice a ops.length cap] 44)).alloc (by simp) (.cells (cO o) 76));have HG:=Lh (hg.over HB.o);have HV0:=Lh (HV.o.over HB.o);have gd:=fun p q xs ys w=>guard_vid .eql p q xs ys w;clear hv hc hg HV;generalize hx:lookX vs id ops o.at'=x at *;generalize hz:lookX vs id ops o.to=z at *;have HX:=Lh hx;have HZ:=Lh hz;clear hx hz;unfold patV opV;go_enter Tryz.func125,Tryz.ntmps125;go_upto_region 1 with fail;generalize (w.alloc (.cells #[.int .u8 id.author.toNat,.int .u16 id.seq.toNat,dv,.slice a ops.length cap] 44)).alloc (.cells (cO o) 76)=w0 at *;obtain⟨p0,p1,p2,p3,sp⟩:=HP.o.c4;obtain⟨o0,o1,o2,o3,o4,o5,o6,o7,so⟩:=HO.o.c8;go_upto_region 2 with(first|(go_at_call 202;(with_reducible refine(glook_any b bv be n f vs es id dv _ ops o.at' _ (HG.o.over (Below.refl _ _)) HV0.o hl).mono ?_);rintro e w1 ⟨rfl,hb⟩;rw [HX.o];have HB1:=Lh hb;clear hb))
 have HP2:=Lh ((HP.o.over HB1.o).alloc (.cells #[.int .u8 ((optV x).id.pid.author.toNat:Int),.int .u16 ((optV x).id.pid.seq.toNat:Int),.int .u8 ((optV x).id.n.toNat:Int),.int .u8 ((optV x).kind.toNat:Int),.int .u8 ((optV x).file.pid.author.toNat:Int),.int .u16 ((optV x).file.pid.seq.toNat:Int),.int .u8 ((optV x).file.n.toNat:Int),.string (optV x).text,.bool (optV x).dead] 101));have HO2:=Lh ((HO.o.over HB1.o).alloc (.cells #[.int .u8 ((optV x).id.pid.author.toNat:Int),.int .u16 ((optV x).id.pid.seq.toNat:Int),.int .u8 ((optV x).id.n.toNat:Int),.int .u8 ((optV x).kind.toNat:Int),.int .u8 ((optV x).file.pid.author.toNat:Int),.int .u16 ((optV x).file.pid.seq.toNat:Int),.int .u8 ((optV x).file.n.toNat:Int),.string (optV x).text,.bool (optV x).dead] 101));have HA2:=Lh (anw w1 #[.int .u8 ((optV x).id.pid.author.toNat:Int),.int .u16 ((optV x).id.pid.seq.toNat:Int),.int .u8 ((optV x).id.n.toNat:Int),.int .u8 ((optV x).kind.toNat:Int),.int .u8 ((optV x).file.pid.author.toNat:Int),.int .u16 ((optV x).file.pid.seq.toNat:Int),.int .u8 ((optV x).file.n.toNat:Int),.string (optV x).text,.bool (optV x).dead] 101);have HBx:=Lh (HB1.o.alloc HB1.o.size (.cells #[.int .u8 ((optV x).id.pid.author.toNat:Int),.int .u16 ((optV x).id.pid.seq.toNat:Int),.int .u8 ((optV x).id.n.toNat:Int),.int .u8 ((optV x).kind.toNat:Int),.int .u8 ((optV x).file.pid.author.toNat:Int),.int .u16 ((optV x).file.pid.seq.toNat:Int),.int .u8 ((optV x).file.n.toNat:Int),.string (optV x).text,.bool (optV x).dead] 101));have HB2:=Lh (bvo HB.o HBx.o);have HG2:=Lh (HG.o.over HBx.o);have HV2:=Lh (HV0.o.over HBx.o);generalize w1.alloc (.cells #[.int .u8 ((optV x).id.pid.author.toNat:Int),.int .u16 ((optV x).id.pid.seq.toNat:Int),.int .u8 ((optV x).id.n.toNat:Int),.int .u8 ((optV x).kind.toNat:Int),.int .u8 ((optV x).file.pid.author.toNat:Int),.int .u16 ((optV x).file.pid.seq.toNat:Int),.int .u8 ((optV x).file.n.toNat:Int),.string (optV x).text,.bool (optV x).dead] 101)=w2 at *;clear p0 p1 p2 p3 sp o0 o1 o2 o3 o4 o5 o6 o7 so HP HO HG HV0 HB;obtain⟨p0,p1,p2,p3,sp⟩:=HP2.o.c4;obtain⟨o0,o1,o2,o3,o4,o5,o6,o7,so⟩:=HO2.o.c8;obtain⟨x0,x1,x2,x3,x4,x5,x6,x7,x8,sx⟩:=HA2.o.c9
 by_cases hk:o.kind.toNat=2
 ·
  have k2:((o.kind.toNat:Int) == 2)=true:=by simp;omega
  have k3:((o.kind.toNat:Int) == 3)=false:=by simp;omega
  have k5:((o.kind.toNat:Int) == 5)=false:=by simp;omega
  have k4:((o.kind.toNat:Int) == 4)=false:=by simp;omega
  have k:refsK x z o.kind.toNat=isK x 1:=refsK_1 (.inl hk);cases hq:x.isSome with
  | false =>have HK:=Lh (k.trans (isK_no 1 hq));clear k hk;go_wp2;go_ret;exact⟨rvb (HK.o),HB2.o⟩
  | true =>
   have k9:(((optV x).kind.toNat:Int) == 1)=_:=kind_nat (x:=optV x) (n:=1) (k:=1) rfl;cases hd:decide ((optV x).kind=1) with
   | false =>have HK:=Lh ((k.trans (isK_yes hq)).trans hd);rw [hd] at k9;clear k hk hd;go_wp2;go_ret;exact⟨rvb (HK.o),HB2.o⟩
   | true =>have HK:=Lh ((k.trans (isK_yes hq)).trans hd);rw [hd] at k9;clear k hk hd;go_wp2;go_ret;exact⟨rvb (HK.o),HB2.o⟩
 by_cases hk:o.kind.toNat=3
 ·
  have k2:((o.kind.toNat:Int) == 2)=false:=by simp;omega
  have k3:((o.kind.toNat:Int) == 3)=true:=by simp;omega
  have k5:((o.kind.toNat:Int) == 5)=false:=by simp;omega
  have k4:((o.kind.toNat:Int) == 4)=false:=by simp;omega
  have k:refsK x z o.kind.toNat=isK x 1:=refsK_1 (.inr hk);cases hq:x.isSome with
  | false =>have HK:=Lh (k.trans (isK_no 1 hq));clear k hk;go_wp2;go_ret;exact⟨rvb (HK.o),HB2.o⟩
  | true =>
   have k9:(((optV x).kind.toNat:Int) == 1)=_:=kind_nat (x:=optV x) (n:=1) (k:=1) rfl;cases hd:decide ((optV x).kind=1) with
   | false =>have HK:=Lh ((k.trans (isK_yes hq)).trans hd);rw [hd] at k9;clear k hk hd;go_wp2;go_ret;exact⟨rvb (HK.o),HB2.o⟩
   | true =>have HK:=Lh ((k.trans (isK_yes hq)).trans hd);rw [hd] at k9;clear k hk hd;go_wp2;go_ret;exact⟨rvb (HK.o),HB2.o⟩
 by_cases hk:o.kind.toNat=5
 ·
  have k2:((o.kind.toNat:Int) == 2)=false:=by simp;omega
  have k3:((o.kind.toNat:Int) == 3)=false:=by simp;omega
  have k5:((o.kind.toNat:Int) == 5)=true:=by simp;omega
  have k4:((o.kind.toNat:Int) == 4)=false:=by simp;omega
  have HK:Hid (refsK x z o.kind.toNat=x.isSome):=by show _=_;rw [hk];exact refsK_5
  clear hk;go_wp2;go_ret;exact⟨rvb (HK.o),HB2.o⟩
 by_cases hk:o.kind.toNat=4
 ·
  have k2:((o.kind.toNat:Int) == 2)=false:=by simp;omega
  have k3:((o.kind.toNat:Int) == 3)=false:=by simp;omega
  have k5:((o.kind.toNat:Int) == 5)=false:=by simp;omega
  have k4:((o.kind.toNat:Int) == 4)=true:=by simp;omega
  have k:refsK x z o.kind.toNat=(isK x 3 && (isK z 3 && decide (x.map (·.file)=z.map (·.file)))):=by rw [hk];exact refsK_4
  go_upto_region 10 with(first|(go_at_call 202;(with_reducible refine(glook_any b bv be n f vs es id dv _ ops o.to _ (HG2.o.over (Below.refl _ _)) HV2.o hl).mono ?_);rintro e w3 ⟨rfl,hb⟩;rw [HZ.o];have HB3:=Lh hb;clear hb))
  have HX4:=Lh ((HA2.o.over HB3.o).alloc (.cells #[.int .u8 ((optV z).id.pid.author.toNat:Int),.int .u16 ((optV z).id.pid.seq.toNat:Int),.int .u8 ((optV z).id.n.toNat:Int),.int .u8 ((optV z).kind.toNat:Int),.int .u8 ((optV z).file.pid.author.toNat:Int),.int .u16 ((optV z).file.pid.seq.toNat:Int),.int .u8 ((optV z).file.n.toNat:Int),.string (optV z).text,.bool (optV z).dead] 101));have HZ4:=Lh (anw w3 #[.int .u8 ((optV z).id.pid.author.toNat:Int),.int .u16 ((optV z).id.pid.seq.toNat:Int),.int .u8 ((optV z).id.n.toNat:Int),.int .u8 ((optV z).kind.toNat:Int),.int .u8 ((optV z).file.pid.author.toNat:Int),.int .u16 ((optV z).file.pid.seq.toNat:Int),.int .u8 ((optV z).file.n.toNat:Int),.string (optV z).text,.bool (optV z).dead] 101);have HBy:=Lh (HB3.o.alloc HB3.o.size (.cells #[.int .u8 ((optV z).id.pid.author.toNat:Int),.int .u16 ((optV z).id.pid.seq.toNat:Int),.int .u8 ((optV z).id.n.toNat:Int),.int .u8 ((optV z).kind.toNat:Int),.int .u8 ((optV z).file.pid.author.toNat:Int),.int .u16 ((optV z).file.pid.seq.toNat:Int),.int .u8 ((optV z).file.n.toNat:Int),.string (optV z).text,.bool (optV z).dead] 101));have HB4:=Lh (bvo HB2.o HBy.o);generalize w3.alloc (.cells #[.int .u8 ((optV z).id.pid.author.toNat:Int),.int .u16 ((optV z).id.pid.seq.toNat:Int),.int .u8 ((optV z).id.n.toNat:Int),.int .u8 ((optV z).kind.toNat:Int),.int .u8 ((optV z).file.pid.author.toNat:Int),.int .u16 ((optV z).file.pid.seq.toNat:Int),.int .u8 ((optV z).file.n.toNat:Int),.string (optV z).text,.bool (optV z).dead] 101)=w4 at *;clear p0 p1 p2 p3 sp o0 o1 o2 o3 o4 o5 o6 o7 so x0 x1 x2 x3 x4 x5 x6 x7 x8 sx HP2 HO2 HA2 HG2 HV2;obtain⟨x0,x1,x2,x3,x4,x5,x6,x7,x8,sx⟩:=HX4.o.c9;obtain⟨z0,z1,z2,z3,z4,z5,z6,z7,z8,sz⟩:=HZ4.o.c9;cases hq:x.isSome with
  | false =>have HK:=Lh (k.trans (by rw [isK_no 3 hq];rfl:_=false));clear k hk;go_wp2;go_ret;exact⟨rvb (HK.o),HB4.o⟩
  | true =>
   cases hr:z.isSome with
   | false =>have HK:=Lh (k.trans (by rw [isK_no (x:=z) 3 hr,Bool.false_and,Bool.and_false]:_=false));clear k hk;go_wp2;go_ret;exact⟨rvb (HK.o),HB4.o⟩
   | true =>
    have k9:(((optV x).kind.toNat:Int) == 3)=_:=kind_nat (x:=optV x) (n:=3) (k:=3) rfl;have k8:(((optV z).kind.toNat:Int) == 3)=_:=kind_nat (x:=optV z) (n:=3) (k:=3) rfl;rw [isK_yes hq,isK_yes hr,file_eq hq hr] at k;cases hd:decide ((optV x).kind=3) with
    | false =>rw [hd] at k9 k;have HK:=Lh (k.trans (Bool.false_and _));clear k hk hd k8;go_wp2;go_ret;exact⟨rvb (HK.o),HB4.o⟩
    | true =>
     rw [hd,Bool.true_and] at k;rw [hd] at k9;cases hf:decide ((optV z).kind=3) with
     | false =>rw [hf] at k8 k;have HK:=Lh (k.trans (Bool.false_and _));clear k hk hd hf;go_wp2;go_ret;exact⟨rvb (HK.o),HB4.o⟩
     | true =>rw [hf,Bool.true_and] at k;rw [hf] at k8;have HK:=Lh k;have e9:=eql_vid (optV x).file (optV z).file _ rfl;unfold vidV at e9;clear k hk hd hf;go_wp2;go_ret;exact⟨rvb (HK.o),HB4.o⟩
 have HK:=Lh (refsK_0 (x:=x) (z:=z) (k:=o.kind.toNat) (by assumption) (by assumption) (by assumption) (by assumption));have k2:((o.kind.toNat:Int) == 2)=false:=by simp;omega
 have k3:((o.kind.toNat:Int) == 3)=false:=by simp;omega
 have k5:((o.kind.toNat:Int) == 5)=false:=by simp;omega
 have k4:((o.kind.toNat:Int) == 4)=false:=by simp;omega
 go_wp2;go_ret;exact⟨rvb (HK.o),HB2.o⟩
end Go.Proofs.YtjccmcgglfncdaaGreatDoor
set_option maxRecDepth 100000
set_option maxHeartbeats 40000000
namespace Go.Proofs.YtjccmcgglfncdaaGreatDoor
open Go Go.RowKit
theorem agg_vec(w:World):(isAgg 54).run Tryz.prog w=.ok true w:=by kernel_rfl
theorem size_vec(w:World):(Go.sizeOf 54).run Tryz.prog w=.ok 64 w:=by kernel_rfl
def refsO(vs:VidM→Option VertM)(id:PidM)(ops:List OpM)(o:OpM):Bool:=refsK (lookX vs id ops o.at') (lookX vs id ops o.to) o.kind.toNat
def checkX(f:VecM)(vs:VidM→Option VertM)(id:PidM)(deps:List PidM)(ops:List OpM):Nat:=
 if goodQ id deps ops=false then 1 else if hasF f id=true then 7 else if ¬ nextF f id.author=id then 9
 else if deps.any (fun d => !hasF f d)=true then 9 else if ops.any (fun o => !refsO vs id ops o)=true then 10 else 0
section
variable {f : VecM} {vs : VidM → Option VertM} {id : PidM} {deps : List PidM} {ops : List OpM}
theorem chk1(h:goodQ id deps ops=false):checkX f vs id deps ops=1:=by unfold checkX;rw [if_pos h]
theorem chk2(h:goodQ id deps ops=true)(h2:hasF f id=true):checkX f vs id deps ops=7:=by unfold checkX;rw [if_neg (by simp [h]),if_pos h2]
theorem chk3(h:goodQ id deps ops=true)(h2:hasF f id=false)(h3:¬ nextF f id.author=id):checkX f vs id deps ops=9:=by unfold checkX;rw [if_neg (by simp [h]),if_neg (by simp [h2]),if_pos h3]
def Chk3(f:VecM)(id:PidM)(deps:List PidM)(ops:List OpM):Prop:=goodQ id deps ops=true∧hasF f id=false∧nextF f id.author=id
theorem chk4(h:Chk3 f id deps ops){k:Nat}{d:PidM}(hd:deps[k]? = some d)(h4:hasF f d=false):checkX f vs id deps ops=9:=by obtain⟨h,h2,h3⟩:=h;unfold checkX;rw [if_neg (by simp [h]),if_neg (by simp [h2]),if_neg (by simp [h3]),if_pos (List.any_eq_true.2 ⟨d,List.mem_of_getElem? hd,by simp [h4]⟩)]
theorem chk5(h:Chk3 f id deps ops)(h4:(deps.take deps.length).any (fun d => !hasF f d)=false){k:Nat}{o:OpM}(ho:ops[k]? = some o)(h5:refsO vs id ops o=false):checkX f vs id deps ops=10:=by obtain⟨h,h2,h3⟩:=h;rw [List.take_length] at h4;unfold checkX;rw [if_neg (by simp [h]),if_neg (by simp [h2]),if_neg (by simp [h3]),if_neg (by rw [h4];simp),if_pos (List.any_eq_true.2 ⟨o,List.mem_of_getElem? ho,by simp [h5]⟩)]
theorem chk6(h:Chk3 f id deps ops)(h4:(deps.take deps.length).any (fun d => !hasF f d)=false)(h5:(ops.take ops.length).any (fun o => !refsO vs id ops o)=false):checkX f vs id deps ops=0:=by obtain⟨h,h2,h3⟩:=h;rw [List.take_length] at h4 h5;unfold checkX;rw [if_neg (by simp [h]),if_neg (by simp [h2]),if_neg (by simp [h3]),if_neg (by rw [h4];simp),if_neg (by rw [h5];simp)]
end
attribute [local irreducible] vecL lookX madeX optV refsK isK goodQ hasF nextF checkX refsO
theorem gcheck_any(b bv be n:Nat)(f:VecM)(vs:VidM→Option VertM)(es:EdgeM→Option VidM)(id:PidM)(dv ov:Value)(deps:List PidM)(ops:List OpM)(w:World)(hg:GrW w b bv be n f vs es)(hf:∀ a,f a≤60000)(hd:GRow encPid 2 w dv deps)(hv:GRow encOp 8 w ov ops)(hl:ops.length≤40000)(hz:∀ o∈ops,o.text.size≤maxLen) :
  Calls Tryz.prog 63 #[.pointer (some ⟨b,0,none⟩),patV id dv ov] w fun e w'=>e=.returned (.int .i64 ((checkX f vs id deps ops:Nat):Int))∧Be w w':=by
 have HV:=Lh hv;have HD:=Lh hd;have HF:=Lh hf;have HZ:=Lh hz;obtain⟨a,cap,rfl,h1,h2,hc⟩:=hv.at encOp_len;obtain⟨ad,capd,rfl,h1d,h2d,hcd⟩:=hd.at encPid_len;unfold maxLen at h2 h2d;have HC:=Lh hc;have HCd:=Lh hcd;have HG0:=Lh hg;have HP:=Lh (anw w #[.int .u8 id.author.toNat,.int .u16 id.seq.toNat,.slice ad deps.length capd,.slice a ops.length cap] 44);have HB:=Lh (bnew (w:=w) (.cells #[.int .u8 id.author.toNat,.int .u16 id.seq.toNat,.slice ad deps.length capd,.slice a ops.length cap] 44));have gd:=fun p q xs ys w=>guard_pid .neq p q xs ys w;clear hv hc hg hd hcd hf hz;unfold patV;go_enter Tryz.func63,Tryz.ntmps63;go_upto_region 1 with fail;generalize w.alloc (.cells #[.int .u8 id.author.toNat,.int .u16 id.seq.toNat,.slice ad deps.length capd,.slice a ops.length cap] 44)=w0 at *;obtain⟨p0,p1,p2,p3,sp⟩:=HP.o.c4;cases hgq:goodQ id deps ops with
 | false =>
  have HK:=Lh hgq;have HN:=Lh (chk1 (f:=f) (vs:=vs) hgq);clear hgq;go_upto_region 2 with(first|(go_at_call 111;(with_reducible refine(pgood_any id _ _ deps ops _ (HD.o.over HB.o) (HV.o.over HB.o) hl HZ.o).mono ?_);rintro e w1 ⟨rfl,hb⟩;rw [HK.o]))
  have HB1:=Lh (bvo HB.o hb);clear hb;go_wp2;go_ret;exact⟨(rvl (congrArg (fun n:Nat=>Value.int .i64 n) (HN.o).symm)),bvo HB1.o ((Below.refl _ _))⟩
 | true =>
  have HK:=Lh hgq;clear hgq;go_upto_region 3 with(first|(go_at_call 111;(with_reducible refine(pgood_any id _ _ deps ops _ (HD.o.over HB.o) (HV.o.over HB.o) hl HZ.o).mono ?_);rintro e w1 ⟨rfl,hb⟩;rw [HK.o]))
  have HB1:=Lh (bvo HB.o hb);have HP1:=Lh (HP.o.over hb);have HG:=Lh (HG0.o.over HB1.o);have HGA:Hid (Arr w1 b (vecL f++[.map (some bv),.map (some be)])):=HG.o.arr;have HV1:=Lh (HV.o.over HB1.o);clear hb p0 p1 p2 p3 sp HP HG0 HV HD;obtain⟨p0,p1,p2,p3,sp⟩:=HP1.o.c4;refine wlo 8 fun hcur=>?_;repeat(first|(refine lxs rfl rfl ?_;simp only [Act.put,Sib,Scs,Scz])|((with_reducible refine lex_load_part agg_vec size_vec rfl _ rfl rfl rfl (fun w' hw'=>HGA.o.over (bvo (Below.refl w1.heap.size w1) (isOver_below hw'))) (vecL_len f) ?_);simp only [Act.put,Sib,Scs,Scz])|(refine lxo rfl ?_;go_big_quiet_step (fail);refine wpQuiet_nil ?_)|(refine lxl rfl ?_;go_wp2_with (first|(go_at_call 124;(with_reducible refine(phas_any f id _).mono ?_);rintro e w2 ⟨rfl,hb⟩;have hcur:=bvo hcur hb));refine⟨iov hcur,?_⟩))
  refine lxe ?_;have HC2:=Lh hcur;clear hcur;cases hh:hasF f id with
  | true =>have HN:=Lh (chk2 (vs:=vs) HK.o hh);go_wp2;go_ret;exact⟨(rvl (congrArg (fun n:Nat=>Value.int .i64 n) (HN.o).symm)),bvo HB1.o (HC2.o)⟩
  | false =>
   have HH:=Lh hh;have HP2:=Lh (HP1.o.over HC2.o);clear p0 p1 p2 p3 sp;obtain⟨p0,p1,p2,p3,sp⟩:=HP2.o.c4;go_upto_region 5 with fail;clear hh
   by_cases hn:nextF f id.author=id
   ·
    have e1:=neq_pid (nextF f id.author) id false (by simp [hn]);unfold pidV at e1;have HN:=Lh hn;clear hn;refine wlo 12 fun hcur=>?_;(repeat(first|(refine lxs rfl rfl ?_;simp only [Act.put,Sib,Scs,Scz])|((with_reducible refine lex_load_part agg_vec size_vec rfl _ rfl rfl rfl (fun w' hw'=>HGA.o.over (bvo HC2.o (isOver_below hw'))) (vecL_len f) ?_);simp only [Act.put,Sib,Scs,Scz])|(refine lxo rfl ?_;go_big_quiet_step (fail);refine wpQuiet_nil ?_)|(refine lxl rfl ?_;go_wp2_with (first|(go_at_call 49;(with_reducible refine(pnext_any f HF.o id.author _).mono ?_);rintro e w3 ⟨rfl,hb⟩;have hcur:=bvo hcur hb));refine⟨iov hcur,?_⟩)));refine lxe ?_;have HC3:=Lh (bvo HC2.o hcur);have H3:Hid (Chk3 f id deps ops):=⟨HK.o,HH.o,HN.o⟩;clear hcur e1 HN HH HK;have HP3:=Lh (HP1.o.over HC3.o);clear p0 p1 p2 p3 sp HP2 HC2;obtain⟨p0,p1,p2,p3,sp⟩:=HP3.o.c4;go_wp2;go_loopw [40] (fun v40 wr=>∃ k:Nat,k≤deps.length∧v40=.int .i64 k∧Hid ((deps.take k).any (fun d => !hasF f d)=false)∧Be w3 wr) (fun v40 _=>deps.length - (intOf v40).toNat)
    case atStart=>exact⟨0,by omega,rfl,(by show _=_;simp),Below.refl _ _⟩
    case round =>
     obtain⟨k,hk,rfl,HM,hbl⟩:=hrel;have HCr:=Lh (bvo HC3.o hbl);have HBr:=Lh (bvo HB1.o HCr.o);clear p0 p1 p2 p3 sp
     by_cases hlt:k<deps.length
     ·
      obtain⟨bd,offd,rfl,sbd,hcb⟩:=HCd.o.resolve_left (by omega);obtain⟨d,hdk⟩:=gol hlt;have HX:=Lh hdk;have HRd:=Lh (hcb k d hdk wr HBr.o);clear hcb hdk;obtain⟨d0,d1,sd⟩:=rc2 HRd.o;go_upto_region 10 with fail;have HA4:=Lh (anw wr (cP d) 25);have hbx:=hbl.alloc hbl.size (.cells (cP d) 25);have HC4:=Lh (bvo HC3.o hbx);generalize wr.alloc (.cells (cP d) 25)=w4 at *;clear d0 d1 sd;obtain⟨d0,d1,sd⟩:=HA4.o.c2;refine wlo 7 fun hcur=>?_;(repeat(first|(refine lxs rfl rfl ?_;simp only [Act.put,Sib,Scs,Scz])|((with_reducible refine lex_load_part agg_vec size_vec rfl _ rfl rfl rfl (fun w' hw'=>HGA.o.over (bvo HC4.o (isOver_below hw'))) (vecL_len f) ?_);simp only [Act.put,Sib,Scs,Scz])|(refine lxo rfl ?_;go_big_quiet_step (fail);refine wpQuiet_nil ?_)|(refine lxl rfl ?_;go_wp2_with (first|(go_at_call 124;(with_reducible refine(phas_any f d _).mono ?_);rintro e w5 ⟨rfl,hb⟩;have hcur:=bvo hcur hb));refine⟨iov hcur,?_⟩)));refine lxe ?_;have hb5:=bvo hbx hcur;have HC5:=Lh (bvo HC4.o hcur);clear hcur hbx;cases hh:hasF f d with
      | true =>
       have HN:=Lh (any_step HM.o HX.o (by rw [hh];rfl));go_wp2;go_roundw
       case rel=>exact⟨k+1,hlt,by go_num,HN,hb5⟩
       case measure=>simp [intOf];omega
      | false =>have HN:=Lh (chk4 (vs:=vs) H3.o HX.o hh);go_wp2;go_ret;exact⟨(rvl (congrArg (fun n:Nat=>Value.int .i64 n) (HN.o).symm)),bvo HB1.o (HC5.o)⟩
     ·
      obtain rfl:k=deps.length:=(by omega);have HM1:=Lh HM.o;have HPr:=Lh (HP1.o.over HCr.o);rename World=>w6;clear HM hbl hlt hk;obtain⟨p0,p1,p2,p3,sp⟩:=HPr.o.c4;go_wp2;go_loopw [55] (fun v55 wr=>∃ k:Nat,k≤ops.length∧v55=.int .i64 k∧Hid ((ops.take k).any (fun o => !refsO vs id ops o)=false)∧Be w6 wr) (fun v55 _=>ops.length - (intOf v55).toNat)
      case atStart=>exact⟨0,by omega,rfl,(by show _=_;simp),Below.refl _ _⟩
      case round =>
       obtain⟨k,hk,rfl,HM,hbl⟩:=hrel;have HC7:=Lh (bvo HCr.o hbl);have HB7:=Lh (bvo HB1.o HC7.o);clear p0 p1 p2 p3 sp
       by_cases hlt:k<ops.length
       ·
        obtain⟨bo,offo,rfl,sbo,hcb⟩:=HC.o.resolve_left (by omega);obtain⟨o,hok⟩:=gol hlt;have HX:=Lh hok;have HRo:=Lh (hcb k o hok wr HB7.o);clear hcb hok;obtain⟨o0,o1,o2,o3,o4,o5,o6,o7,so⟩:=rc8 HRo.o;go_upto_region 16 with fail;have HA8:=Lh (anw wr (cO o) 76);have hbx:=hbl.alloc hbl.size (.cells (cO o) 76);have HC8:=Lh (bvo HCr.o hbx);have HP8:=Lh (HP1.o.over HC8.o);have HG8:=Lh (HG.o.over HC8.o);have HV8:=Lh (HV1.o.over HC8.o);generalize wr.alloc (.cells (cO o) 76)=w8 at *;clear o0 o1 o2 o3 o4 o5 o6 o7 so;obtain⟨o0,o1,o2,o3,o4,o5,o6,o7,so⟩:=HA8.o.c8;obtain⟨p0,p1,p2,p3,sp⟩:=HP8.o.c4;cases hr:refsO vs id ops o with
        | true =>
         have HR:Hid (refsK (lookX vs id ops o.at') (lookX vs id ops o.to) o.kind.toNat=true):=Lh (by unfold refsO at hr;exact hr);have HN:=Lh (any_step HM.o HX.o (by rw [hr];rfl));clear hr;go_wp2_with (first|(go_at_call 125;(with_reducible refine(grefs_any b bv be n f vs es id _ _ ops o _ (HG8.o.over (Below.refl _ _)) HV8.o hl).mono ?_);rintro e w9 ⟨rfl,hb⟩;rw [HR.o]));go_roundw
         case rel=>exact⟨k+1,hlt,by go_num,HN,bvo hbx hb⟩
         case measure=>simp [intOf];omega
        | false =>have HR:Hid (refsK (lookX vs id ops o.at') (lookX vs id ops o.to) o.kind.toNat=false):=Lh (by unfold refsO at hr;exact hr);have HN:=Lh (chk5 (vs:=vs) H3.o HM1.o HX.o hr);clear hr;go_wp2_with (first|(go_at_call 125;(with_reducible refine(grefs_any b bv be n f vs es id _ _ ops o _ (HG8.o.over (Below.refl _ _)) HV8.o hl).mono ?_);rintro e w9 ⟨rfl,hb⟩;rw [HR.o]));go_wp2;go_ret;exact⟨(rvl (congrArg (fun n:Nat=>Value.int .i64 n) (HN.o).symm)),bvo HB1.o (bvo HC8.o hb)⟩
       · obtain rfl:k=ops.length:=(by omega);have HN:=Lh (chk6 (vs:=vs) H3.o HM1.o HM.o);clear HM hlt hk;go_wp2;go_ret;exact⟨(rvl (congrArg (fun n:Nat=>Value.int .i64 n) (HN.o).symm)),bvo HB1.o (HC7.o)⟩
   · have e1:=neq_pid (nextF f id.author) id true (by simp [hn]);unfold pidV at e1;have HN:=Lh (chk3 (vs:=vs) HK.o HH.o hn);clear hn;refine wlo 12 fun hcur=>?_;(repeat(first|(refine lxs rfl rfl ?_;simp only [Act.put,Sib,Scs,Scz])|((with_reducible refine lex_load_part agg_vec size_vec rfl _ rfl rfl rfl (fun w' hw'=>HGA.o.over (bvo HC2.o (isOver_below hw'))) (vecL_len f) ?_);simp only [Act.put,Sib,Scs,Scz])|(refine lxo rfl ?_;go_big_quiet_step (fail);refine wpQuiet_nil ?_)|(refine lxl rfl ?_;go_wp2_with (first|(go_at_call 49;(with_reducible refine(pnext_any f HF.o id.author _).mono ?_);rintro e w3 ⟨rfl,hb⟩;have hcur:=bvo hcur hb));refine⟨iov hcur,?_⟩)));refine lxe ?_;have HC3:=Lh (bvo HC2.o hcur);clear hcur;go_wp2;go_ret;exact⟨(rvl (congrArg (fun n:Nat=>Value.int .i64 n) (HN.o).symm)),bvo HB1.o (HC3.o)⟩
end Go.Proofs.YtjccmcgglfncdaaGreatDoor
set_option maxRecDepth 100000
set_option maxHeartbeats 40000000
namespace Go.Proofs.YtjccmcgglfncdaaGreatDoor
open Go Go.RowKit
section
variable {P : Program} {ty : TypeId} {size : Nat} {w : World} {ops : Array Oper} {rest : List Oper} {o : Oper} {a : Act} {Q : Exit → Act → World → Prop}
theorem wpList_load_part(hag:∀ w,(isAgg ty).run P w=.ok true w)(hsz:∀ w,(Go.sizeOf ty).run P w=.ok size w)(hgd:o.guard=none)(x:Operand)(ho:o.op=.load ty x)(g:Nat)(cs more:List Value)(hA:Arr w g (cs++more))(hx:a.eval x=.pointer (some ⟨g,0,none⟩))(hl:cs.length=size)
  (h:wpList P ops Q rest (a.put o.dst (.agg cs.toArray)) w):wpList P ops Q (o :: rest) a w:=by refine wpList_plain hgd fun K hK => ?_;unfold Oper.wp execOp;simp only [ho,hx,Instr.loadAt,Instr.sureAddr,Sem.run_bind,Sem.run_pure,Result.andThen_ok,run_load_part hag hsz hA hl];exact hK _ _ h
end
def stepV(vs:VidM→Option VertM)(id:PidM)(i:Nat)(o:OpM):VidM→Option VertM:=
 if makesB o.kind=true then updM vs (madeX id i o).id (madeX id i o) else if o.kind.toNat=4 then vs else updM vs o.at' (killV (optV (vs o.at')))
def stepE(vs:VidM→Option VertM)(es:EdgeM→Option VidM)(o:OpM):EdgeM→Option VidM:=
 if makesB o.kind=true then es else if o.kind.toNat=4 then updM es (o.at',o.to) (optV (vs o.at')).file else es
structure Steps (VS:Nat→VidM→Option VertM) (ES:Nat→EdgeM→Option VidM) (vs:VidM→Option VertM) (es:EdgeM→Option VidM) (id:PidM) (ops:List OpM):Prop where
 v0:VS 0=vs
 e0:ES 0=es
 vk:∀ i o,ops[i]? = some o→VS (i+1)=stepV (VS i) id i o
 ek:∀ i o,ops[i]? = some o→ES (i+1)=stepE (VS i) (ES i) o
theorem optV_eq(x:Option VertM):x.getD noVert=optV x:=rfl
theorem field_file(y:VertM)(w:World):(Instr.field 101 (.agg (cX y)) 2).run Tryz.prog w=.ok (.agg (cV y.file)) w:=by kernel_rfl
def ApOk(w0:World)(b bv be m:Nat)(f:VecM)(vs:VidM→Option VertM)(es:EdgeM→Option VidM)(e:Ending)(w':World):Prop:=
 e=.returned (.int .i64 0)∧GrW w' b bv be m f vs es∧Be w0 w'
attribute [local irreducible] vecL lookX madeX optV refsK isK goodQ hasF nextF checkX refsO
theorem gapply_any(b bv be n:Nat)(f:VecM)(vs:VidM→Option VertM)(es:EdgeM→Option VidM)(id:PidM)(dv ov:Value)(deps:List PidM)(ops:List OpM)(VS:Nat→VidM→Option VertM)(ES:Nat→EdgeM→Option VidM)
  (wb w:World) (hb0:Be wb w) (k1:wb.heap.size≤b) (k2:wb.heap.size≤bv) (k3:wb.heap.size≤be) (hg:GrW w b bv be n f vs es) (hf:∀ a,f a≤60000) (hd:GRow encPid 2 wb dv deps) (hv:GRow encOp 8 wb ov ops) (hl:ops.length≤40000) (hz:∀ o∈ops,o.text.size≤maxLen)
  (hn:n+ops.length≤4000000000) (hok:checkX f vs id deps ops=0) (hau:authorOk id.author=true) (hnx:nextF f id.author=id) (hst:Steps VS ES vs es id ops) :
  Calls Tryz.prog 25 #[.pointer (some ⟨b,0,none⟩),patV id dv ov] w (ApOk wb b bv be (n+ops.length) (setV f id.author id.seq.toNat) (VS ops.length) (ES ops.length)):=by
 have HV:=Lh (hv.over hb0);have HVB:=Lh hv;have HD:=Lh (hd.over hb0);have HF:=Lh hf;have HZ:=Lh hz;have HOK:=Lh hok;have HAU:=Lh hau;have HNX:=Lh hnx;have HST:=Lh hst;have HB0:=Lh hb0;have HG0:=Lh hg;obtain⟨a,cap,rfl,h1,h2,hc⟩:=hv.at encOp_len;unfold maxLen at h2;have HC:=Lh hc;have l1:=hg.arr.lt;have l2:=hg.verts.lt;have l3:=hg.edges.lt;have n12:¬ b=bv:=fun e=>hg.verts.ne_arr hg.arr e;have n13:¬ b=be:=fun e=>hg.edges.ne_arr hg.arr e;have n23:¬ bv=be:=hg.ne;have n21:¬ bv=b:=fun e=>n12 e.symm;have n31:¬ be=b:=fun e=>n13 e.symm;have n32:¬ be=bv:=fun e=>n23 e.symm;have HP:=Lh (anw w #[.int .u8 id.author.toNat,.int .u16 id.seq.toNat,dv,.slice a ops.length cap] 44);have HB:=Lh (bnew (w:=w) (.cells #[.int .u8 id.author.toNat,.int .u16 id.seq.toNat,dv,.slice a ops.length cap] 44));clear hv hc hg hd hf hz hok hau hnx hst hb0;unfold patV;go_enter Tryz.func25,Tryz.ntmps25;go_upto_region 1 with fail;generalize w.alloc (.cells #[.int .u8 id.author.toNat,.int .u16 id.seq.toNat,dv,.slice a ops.length cap] 44)=w0 at *;obtain⟨p0,p1,p2,p3,sp⟩:=HP.o.c4;go_upto_region 4 with(first|(go_at_call 63;(with_reducible refine(gcheck_any b bv be n f vs es id _ _ deps ops _ (HG0.o.over HB.o) HF.o (HD.o.over HB.o) (HV.o.over HB.o) hl HZ.o).mono ?_);rintro e w1 ⟨rfl,hb⟩;rw [HOK.o]))
 have HP1:=Lh (HP.o.over hb);have HB1:=Lh (bvo HB.o hb);have HG1:=Lh (HG0.o.over HB1.o);have HGA:Hid (Arr w1 b (vecL f++[.map (some bv),.map (some be)])):=HG1.o.arr;have HBb:=Lh (bvo HB0.o HB1.o);have nbp:¬ w.heap.size=b:=by omega
 have npv:¬ w.heap.size=bv:=by omega
 have npe:¬ w.heap.size=be:=by omega
 clear p0 p1 p2 p3 sp HP HG0 HB hb;obtain⟨p0,p1,p2,p3,sp⟩:=HP1.o.c4;have sb:=HGA.o.lt;have hcur:World.grownBy w1 w1.drew (some b):=⟨rfl,rfl,rfl,Nat.le_refl _,fun _ _ _=>rfl⟩;refine wlex (C:=IsKept w1 (some b)) 14 [4] (by kernel_rfl) (by kernel_rfl) (isKept_of hcur) ?_;simp only [Tsc,Tz,Dsc,Dz];repeat(first|refine lxq ?_|(refine lxl rfl ?_;go_wp2_with (first|((with_reducible show wpList _ _ _ ({dst:=_,op:=.load _ _,type:=_,pos:=_,after:=_,guard:=_} :: _) _ _);refine wpList_load_part agg_vec size_vec rfl _ rfl b (vecL f) [.map (some bv),.map (some be)] HGA.o.drew rfl (vecL_len f) ?_)|(go_at_call 64;(with_reducible refine(pput_any f HF.o id _ HAU.o HNX.o).mono ?_);rintro e w2 ⟨rfl,hb⟩;replace hcur:=gtr hcur (grown_of_below hb);have HGB:Hid (Arr w2 b (vecL f++[.map (some bv),.map (some be)])):=HGA.o.drew.over hb;clear hb)|((with_reducible show wpList _ _ _ ({dst:=_,op:=.store _ _ _,type:=_,pos:=_,after:=_,guard:=_} :: _) _ _);refine wpList_store_part rowVec rfl _ _ rfl b (vecL f) [.map (some bv),.map (some be)] (vecL (setV f id.author id.seq.toNat)) HGB.o rfl rfl (vecL_len _) (vecL_len _) (vecL_one _) ?_;intro HA3 hg3 hs3;replace hcur:=gtr hcur hg3));refine⟨isKept_of (by first|exact hcur|exact only_alloc hcur _),?_⟩))
 refine lxe ?_;generalize w2.setRow b (vecL (setV f id.author id.seq.toNat)++([.map (some bv),.map (some be)]:List Value)).toArray=w3 at *;have HG3:Hid (GrW w3 b bv be n (setV f id.author id.seq.toNat) vs es):=⟨HA3,HG1.o.verts.kept hcur (fun e=>n21 (Option.some.inj e)),HG1.o.edges.kept hcur (fun e=>n31 (Option.some.inj e)),n23⟩;have HP3:=Lh (HP1.o.grown hcur (fun e=>nbp (Option.some.inj e)));have HB3:=Lh (HBb.o.grown hcur HBb.o.size (fun k hk=>by cases hk;exact k1));clear HA3 hg3 hs3 hcur HGA HGB HG1 HBb HP1 sb p0 p1 p2 p3 sp HF HD HZ HOK HAU HNX HB1 HB0;obtain⟨p0,p1,p2,p3,sp⟩:=HP3.o.c4;go_wp2;go_loopw [32] (fun v32 wr=>∃ k:Nat,k≤ops.length∧v32=.int .i64 k∧Hid (GrW wr b bv be (n+k) (setV f id.author id.seq.toNat) (VS k) (ES k))∧Hid (Arr wr w.heap.size [.int .u8 id.author.toNat,.int .u16 id.seq.toNat,dv,.slice a ops.length cap])∧Hid (Be wb wr)) (fun v32 _=>ops.length - (intOf v32).toNat)
 case atStart=>exact⟨0,by omega,rfl,(by show GrW _ _ _ _ _ _ _ _;rw [HST.o.v0,HST.o.e0];exact HG3.o),HP3,HB3⟩
 obtain⟨k,hk,rfl,HGr,HPr,HBr⟩:=hrel;clear p0 p1 p2 p3 sp HG3 HP3 HB3
 by_cases hlt:k<ops.length
 rotate_left
 ·
  obtain rfl:k=ops.length:=by omega
  go_wp2;go_ret;exact⟨rfl,HGr.o,HBr.o⟩
 obtain⟨bo,offo,rfl,sbo,hcb⟩:=HC.o.resolve_left (by omega);obtain⟨o,hok⟩:=gol hlt;have HX:=Lh hok;have HRo:=Lh (hcb k o hok wr HBr.o);have HN:Hid (n+k<maxLen):=Lh (by unfold maxLen;omega);clear hcb hok;obtain⟨o0,o1,o2,o3,o4,o5,o6,o7,so⟩:=rc8 HRo.o;go_upto_region 11 with fail;have HO4:=Lh (anw wr (cO o) 76);have HG4:=Lh (HGr.o.over (bnew (.cells (cO o) 76)));have HP4:=Lh (HPr.o.alloc (.cells (cO o) 76));have HB4:=Lh (HBr.o.alloc HBr.o.size (.cells (cO o) 76));have m1:=HGr.o.arr.lt;have m2:=HGr.o.verts.lt;have m3:=HGr.o.edges.lt;have m4:=HPr.o.lt;have nob:¬ wr.heap.size=b:=by omega
 have nov:¬ wr.heap.size=bv:=by omega
 have noe:¬ wr.heap.size=be:=by omega
 generalize wr.alloc (.cells (cO o) 76)=w4 at *;clear o0 o1 o2 o3 o4 o5 o6 o7 so HGr HPr HRo;obtain⟨o0,o1,o2,o3,o4,o5,o6,o7,so⟩:=HO4.o.c8;obtain⟨p0,p1,p2,p3,sp⟩:=HP4.o.c4;have g64:=HG4.o.arr.cell (gCells_v _ bv be);have g65:=HG4.o.arr.cell (gCells_e _ bv be);have sg:=HG4.o.arr.lt;cases hm:makesB o.kind with
 | true =>
  have HMK:=Lh hm;have hsv:=(HST.o.vk k o HX.o).trans (by unfold stepV;rw [if_pos hm]:_=updM (VS k) (madeX id k o).id (madeX id k o));have HSE:=Lh ((HST.o.ek k o HX.o).trans (by unfold stepE;rw [if_pos hm]:_=ES k));clear hm;generalize hx:madeX id k o=x at *;have HSV:=Lh hsv;clear hsv;go_upto_region 13 with(first|(go_at_call 65;(with_reducible refine(pmakes_any o.kind _).mono ?_);rintro e w9 ⟨rfl,hw9⟩;obtain rfl:=hw9.symm;rw [HMK.o])|(go_at_call 66;(with_reducible refine(hx▸gmade_any id _ _ ops k o _ (HVB.o.over HB4.o) HX.o hl).mono ?_);rintro e w6 ⟨rfl,hb⟩))
  have hbx:=hb.alloc hb.size (.cells (cX x) 101);have HX7:=Lh (anw w6 (cX x) 101);have HG7:=Lh (HG4.o.over hbx);have HP7:=Lh (HP4.o.over hbx);have HB7:=Lh (bvo HB4.o hbx);have nxv:¬ w6.heap.size=bv:=by have:=hb.size;have:=HG4.o.verts.lt;omega
  generalize w6.alloc (.cells (cX x) 101)=w7 at *;clear hb hbx o0 o1 o2 o3 o4 o5 o6 o7 so p0 p1 p2 p3 sp g64 g65 sg HO4 HG4 HP4 HB4;obtain⟨x0,x1,x2,x3,x4,x5,x6,x7,x8,sx⟩:=HX7.o.c9;have g64:=HG7.o.arr.cell (gCells_v _ bv be);have sg:=HG7.o.arr.lt;have hcur:World.grownBy w7 w7.drew (some bv):=⟨rfl,rfl,rfl,Nat.le_refl _,fun _ _ _=>rfl⟩;refine wlex (C:=IsKept w7 (some bv)) 8 [] (by kernel_rfl) (by kernel_rfl) (isKept_of hcur) ?_;simp only [Tsc,Tz,Dsc,Dz];repeat(first|refine lxq ?_|(refine lxl rfl ?_;go_wp2_with (first|((with_reducible show wpList _ _ _ ({dst:=_,op:=.mapUpdate _ _ _ _,type:=_,pos:=_,after:=_,guard:=_} :: _) _ _);refine wpList_tstore keysVid vertV_inj rfl _ _ _ _ rfl Tryz.underlying115 bv _ (VS k) rfl (HG7.o.verts.drew) HN.o (x.id) rfl trivial (x) rfl ?_;intro w5 hm5 hg5 hs5;replace hcur:=gtr hcur hg5));refine⟨isKept_of (by first|exact hcur|exact only_alloc hcur _),?_⟩))
  refine lxe ?_;have HG5:Hid (GrW w5 b bv be (n+(k+1)) (setV f id.author id.seq.toNat) (VS (k+1)) (ES (k+1))):=by show GrW _ _ _ _ _ _ _ _;rw [HSV.o,HSE.o];exact⟨HG7.o.arr.grown hcur (fun e=>n12 (Option.some.inj e)),hm5,(HG7.o.edges.kept hcur (fun e=>n32 (Option.some.inj e))).mono (by omega),n23⟩
  have HP5:=Lh (HP7.o.grown hcur (fun e=>npv (Option.some.inj e)));have HB5:=Lh (HB7.o.grown hcur HB7.o.size (fun k hk=>by cases hk;exact k2));clear hm5 hg5 hs5 hcur;go_wp2;go_roundw
  case rel=>exact⟨k+1,hlt,by go_num,HG5,HP5,HB5⟩
  simp [intOf];omega
 | false =>
  have HMK:=Lh hm
  by_cases h4:o.kind.toNat=4
  ·
   have e4:((o.kind.toNat:Int) == 4)=true:=(by simp;omega);generalize hy:optV (VS k o.at')=y at *;have HSV:=Lh ((HST.o.vk k o HX.o).trans (by unfold stepV;rw [if_neg (by rw [hm];simp),if_pos h4]:_=VS k));have HSE:=Lh ((HST.o.ek k o HX.o).trans (by unfold stepE;rw [if_neg (by rw [hm];simp),if_pos h4,hy]:_=updM (ES k) (o.at',o.to) y.file));clear hm h4;have HLK:Hid (∀ x:Kept w4 (some be),(Instr.lookup 115 (.map (some bv)) (.agg (cV o.at')) false).run Tryz.prog x.1=.ok (vertV y) x.1):=fun x =>(TMap.lookup keysVid vertV_inj (HG4.o.verts.kept x.2 (fun e=>n23 (Option.some.inj e))) Tryz.underlying115 (zero_vert _) o.at' trivial).trans (by rw [optV_eq,hy]);have hlk:=HLK.o;unfold vertV at hlk;have hff:=field_file y;clear HLK;go_upto_region 15 with(first|(go_at_call 65;(with_reducible refine(pmakes_any o.kind _).mono ?_);rintro e w9 ⟨rfl,hw9⟩;obtain rfl:=hw9.symm;rw [HMK.o]))
   have hcur:World.grownBy w4 w4.drew (some be):=⟨rfl,rfl,rfl,Nat.le_refl _,fun _ _ _=>rfl⟩;refine wlex (C:=IsKept w4 (some be)) 18 [] (by kernel_rfl) (by kernel_rfl) (isKept_of hcur) ?_;simp only [Tsc,Tz,Dsc,Dz];(repeat(first|refine lxq ?_|(refine lxl rfl ?_;go_wp2_with (first|((with_reducible show wpList _ _ _ ({dst:=_,op:=.mapUpdate _ _ _ _,type:=_,pos:=_,after:=_,guard:=_} :: _) _ _);refine wpList_tstore keysEdge vidV_inj rfl _ _ _ _ rfl Tryz.underlying116 be _ (ES k) rfl (HG4.o.edges.drew) HN.o ((o.at',o.to)) rfl trivial (y.file) rfl ?_;intro w5 hm5 hg5 hs5;replace hcur:=gtr hcur hg5));refine⟨isKept_of (by first|exact hcur|exact only_alloc hcur _),?_⟩)));refine lxe ?_;have HG5:Hid (GrW w5 b bv be (n+(k+1)) (setV f id.author id.seq.toNat) (VS (k+1)) (ES (k+1))):=(by show GrW _ _ _ _ _ _ _ _;rw [HSV.o,HSE.o];exact⟨HG4.o.arr.grown hcur (fun e=>n13 (Option.some.inj e)),(HG4.o.verts.kept hcur (fun e=>n23 (Option.some.inj e))).mono (by omega),hm5,n23⟩);have HP5:=Lh (HP4.o.grown hcur (fun e=>npe (Option.some.inj e)));have HB5:=Lh (HB4.o.grown hcur HB4.o.size (fun k hk=>by cases hk;exact k3));clear hm5 hg5 hs5 hcur hlk;go_wp2;go_roundw
   case rel=>exact⟨k+1,hlt,by go_num,HG5,HP5,HB5⟩
   simp [intOf];omega
  have e4:((o.kind.toNat:Int) == 4)=false:=by simp;omega
  generalize hy:optV (VS k o.at')=y at *;have HSV:=Lh ((HST.o.vk k o HX.o).trans (by unfold stepV;rw [if_neg (by rw [hm];simp),if_neg h4,hy]:_=updM (VS k) o.at' (killV y)));have HSE:=Lh ((HST.o.ek k o HX.o).trans (by unfold stepE;rw [if_neg (by rw [hm];simp),if_neg h4]:_=ES k));clear hm h4;have HLK:Hid (∀ x:Kept w4 (some w4.heap.size),(Instr.lookup 115 (.map (some bv)) (.agg (cV o.at')) false).run Tryz.prog x.1=.ok (vertV y) x.1):=fun x =>(TMap.lookup keysVid vertV_inj (HG4.o.verts.kept x.2 (by have:=HG4.o.verts.lt;intro e;cases e;omega)) Tryz.underlying115 (zero_vert _) o.at' trivial).trans (by rw [optV_eq,hy]);have hlk:=HLK.o;unfold vertV at hlk;clear HLK;have nwo:¬ wr.heap.size=w4.heap.size:=by omega
  have nwg:¬ b=w4.heap.size:=by omega
  have nwp:¬ w.heap.size=w4.heap.size:=by omega
  go_upto_region 8 with(first|(go_at_call 65;(with_reducible refine(pmakes_any o.kind _).mono ?_);rintro e w9 ⟨rfl,hw9⟩;obtain rfl:=hw9.symm;rw [HMK.o]))
  have hcur:World.grownBy w4 w4.drew (some w4.heap.size):=⟨rfl,rfl,rfl,Nat.le_refl _,fun _ _ _=>rfl⟩;refine wlex (C:=IsKept w4 (some w4.heap.size)) 9 [] (by kernel_rfl) (by kernel_rfl) (isKept_of hcur) ?_;simp only [Tsc,Tz,Dsc,Dz];repeat(first|refine lxq ?_|(refine lxl rfl ?_;go_wp2_with (first|fail);refine⟨isKept_of (by first|exact hcur|exact only_alloc hcur _),?_⟩))
  refine lxe ?_;clear hcur hlk;have hbx:=((Below.refl w4.heap.size w4).alloc (Nat.le_refl _) (.cells (cX y) 101)).drew;have HY7:Hid (Arr ((w4.alloc (.cells (cX y) 101)).drew) w4.heap.size [.int .u8 y.id.pid.author.toNat,.int .u16 y.id.pid.seq.toNat,.int .u8 y.id.n.toNat,.int .u8 y.kind.toNat,.int .u8 y.file.pid.author.toNat,.int .u16 y.file.pid.seq.toNat,.int .u8 y.file.n.toNat,.string y.text,.bool y.dead]):=(anw w4 (cX y) 101).drew;generalize (w4.alloc (.cells (cX y) 101)).drew=w7 at *;have y8:=HY7.o.k 8 rfl;have sy:=HY7.o.lt;have q8:=HY7.o.free 8;go_upto_region 10 with fail;have HY8:Hid (Arr (w7.setCell ⟨w4.heap.size,8,none⟩ (.bool true)) w4.heap.size [.int .u8 y.id.pid.author.toNat,.int .u16 y.id.pid.seq.toNat,.int .u8 y.id.n.toNat,.int .u8 y.kind.toNat,.int .u8 y.file.pid.author.toNat,.int .u16 y.file.pid.seq.toNat,.int .u8 y.file.n.toNat,.string y.text,.bool true]):=HY7.o.set 8 (.bool true);have hb8:=hbx.setCell (p:=⟨w4.heap.size,8,none⟩) (Nat.le_refl _) (.bool true);have HG8:=Lh (HG4.o.over hb8);have HP8:=Lh (HP4.o.over hb8);have HO8:=Lh (HO4.o.over hb8);have HB8:=Lh (bvo HB4.o hb8);have nyv:¬ w4.heap.size=bv:=by have:=HG4.o.verts.lt;omega
  generalize w7.setCell ⟨w4.heap.size,8,none⟩ (.bool true)=w8 at *;clear hb8 hbx HY7 y8 sy q8 o0 o1 o2 o3 o4 o5 o6 o7 so p0 p1 p2 p3 sp g64 g65 sg HO4 HG4 HP4 HB4;obtain⟨o0,o1,o2,o3,o4,o5,o6,o7,so⟩:=HO8.o.c8;obtain⟨y0,y1,y2,y3,y4,y5,y6,y7,y8,sy⟩:=HY8.o.c9;have g64:=HG8.o.arr.cell (gCells_v _ bv be);have sg:=HG8.o.arr.lt;have hcur:World.grownBy w8 w8.drew (some bv):=⟨rfl,rfl,rfl,Nat.le_refl _,fun _ _ _=>rfl⟩;refine wlex (C:=IsKept w8 (some bv)) 8 [] (by kernel_rfl) (by kernel_rfl) (isKept_of hcur) ?_;simp only [Tsc,Tz,Dsc,Dz];repeat(first|refine lxq ?_|(refine lxl rfl ?_;go_wp2_with (first|((with_reducible show wpList _ _ _ ({dst:=_,op:=.mapUpdate _ _ _ _,type:=_,pos:=_,after:=_,guard:=_} :: _) _ _);refine wpList_tstore keysVid vertV_inj rfl _ _ _ _ rfl Tryz.underlying115 bv _ (VS k) rfl (HG8.o.verts.drew) HN.o (o.at') rfl trivial ((killV y)) rfl ?_;intro w5 hm5 hg5 hs5;replace hcur:=gtr hcur hg5));refine⟨isKept_of (by first|exact hcur|exact only_alloc hcur _),?_⟩))
  refine lxe ?_;have HG5:Hid (GrW w5 b bv be (n+(k+1)) (setV f id.author id.seq.toNat) (VS (k+1)) (ES (k+1))):=by show GrW _ _ _ _ _ _ _ _;rw [HSV.o,HSE.o];exact⟨HG8.o.arr.grown hcur (fun e=>n12 (Option.some.inj e)),hm5,(HG8.o.edges.kept hcur (fun e=>n32 (Option.some.inj e))).mono (by omega),n23⟩
  have HP5:=Lh (HP8.o.grown hcur (fun e=>npv (Option.some.inj e)));have HB5:=Lh (HB8.o.grown hcur HB8.o.size (fun k hk=>by cases hk;exact k2));clear hm5 hg5 hs5 hcur;go_wp2;go_roundw
  case rel=>exact⟨k+1,hlt,by go_num,HG5,HP5,HB5⟩
  simp [intOf];omega
end Go.Proofs.YtjccmcgglfncdaaGreatDoor
namespace Go.Proofs.YtjccmcgglfncdaaGreatDoor
open Go Go.RowKit
variable{L:List PatchM}{p:PatchM}
theorem optV_some(x:VertM):optV (some x)=x:=rfl
attribute [local irreducible] vecL lookX optV refsK isK goodQ checkX refsO
theorem gapply_no(b bv be n:Nat)(f:VecM)(vs:VidM→Option VertM)(es:EdgeM→Option VidM)(id:PidM)(dv ov:Value)(deps:List PidM)(ops:List OpM)(w:World)(hg:GrW w b bv be n f vs es)(hf:∀ a,f a≤60000)(hd:GRow encPid 2 w dv deps)(hv:GRow encOp 8 w ov ops)(hl:ops.length≤40000)(hz:∀ o∈ops,o.text.size≤maxLen)
  (hok:¬ checkX f vs id deps ops=0) :
  Calls Tryz.prog 25 #[.pointer (some ⟨b,0,none⟩),patV id dv ov] w fun e w'=>e=.returned (.int .i64 ((checkX f vs id deps ops:Nat):Int))∧Be w w':=by
 have HV:=Lh hv;have HD:=Lh hd;have HF:=Lh hf;have HZ:=Lh hz;have HG0:=Lh hg;obtain⟨a,cap,rfl,h1,h2,hc⟩:=hv.at encOp_len;have HP:=Lh (anw w #[.int .u8 id.author.toNat,.int .u16 id.seq.toNat,dv,.slice a ops.length cap] 44);have HB:=Lh (bnew (w:=w) (.cells #[.int .u8 id.author.toNat,.int .u16 id.seq.toNat,dv,.slice a ops.length cap] 44));clear hv hc hg hd hf hz;generalize hx:checkX f vs id deps ops=x at *;have HX:=Lh hx;have e1:((x:Int) == 0)=false:=by simp;omega
 have e2:((x:Int) != 0)=true:=by simp;omega
 clear hx;unfold patV;go_enter Tryz.func25,Tryz.ntmps25;go_upto_region 1 with fail;generalize w.alloc (.cells #[.int .u8 id.author.toNat,.int .u16 id.seq.toNat,dv,.slice a ops.length cap] 44)=w0 at *;obtain⟨p0,p1,p2,p3,sp⟩:=HP.o.c4;go_wp2_with (first|(go_at_call 63;(with_reducible refine(gcheck_any b bv be n f vs es id _ _ deps ops _ (HG0.o.over HB.o) HF.o (HD.o.over HB.o) (HV.o.over HB.o) hl HZ.o).mono ?_);rintro e w1 ⟨rfl,hb⟩;rw [HX.o]));go_ret;exact⟨rfl,bvo HB.o hb⟩
theorem hasF_eq(hw:WfG L)(q:PidM):hasF (vecM L) q=hasM L q:=by rw [Bool.eq_iff_iff,hw.has];unfold hasF;simp
theorem nextF_eq(L:List PatchM)(a:UInt8):nextF (vecM L) a=nextM L a:=rfl
theorem refsO_eq(hg:goodP p=true)(hn:hasM L p.id=false){o:OpM}(ho:o∈p.ops):refsO (vertM L) p.id p.ops o=refMet (L++[p]) o:=by have h:=refsK_eq L p o;rw [← refs_same hn (by rcases kind_of hg ho with h|h|h|h|h <;> simp [h]),← h];unfold refsO;rfl
theorem any_all{α:Type}(l:List α)(f:α→Bool):(l.any (fun x => !f x)=true)↔(l.all f=false):=by
 rw [List.any_eq_true,← Bool.not_eq_true,List.all_eq_true];constructor
 · rintro⟨x,hx,h⟩ hh;rw [hh x hx] at h;cases h
 intro h;refine Classical.byContradiction fun hc=>h fun x hx=>by
  cases hfx:f x with
  | true=>rfl
  | false=>exact absurd ⟨x,hx,by rw [hfx];rfl⟩ hc
theorem checkX_eq(hw:WfG L)(p:PatchM):checkX (vecM L) (vertM L) p.id p.deps p.ops=checkM L p:=by
 unfold checkX checkM;rw [goodQ_eq,hasF_eq hw,nextF_eq]
 by_cases h1:goodP p=false
 · rw [if_pos h1,if_pos h1]
 rw [if_neg h1,if_neg h1]
 by_cases h2:hasM L p.id=true
 · rw [if_pos h2,if_pos h2]
 rw [if_neg h2,if_neg h2]
 by_cases h3:¬ nextM L p.id.author=p.id
 · rw [if_pos h3,if_pos h3]
 rw [if_neg h3,if_neg h3];have e4:(fun d => !hasF (vecM L) d)=fun d => !hasM L d:=by funext d;rw [hasF_eq hw]
 rw [e4]
 by_cases h4:(p.deps.all fun d=>hasM L d)=false
 · rw [if_pos h4,if_pos ((any_all _ _).2 h4)]
 rw [if_neg h4,if_neg (fun h=>h4 ((any_all _ _).1 h))];have e5:(p.ops.all fun o=>refMet (L++[p]) o)=p.ops.all fun o=>refsO (vertM L) p.id p.ops o:=by
  rw [Bool.eq_iff_iff,List.all_eq_true,List.all_eq_true];constructor
  · intro h o ho;rw [refsO_eq (by simpa using h1) (by simpa using h2) ho];exact h o ho
  intro h o ho;rw [← refsO_eq (by simpa using h1) (by simpa using h2) ho];exact h o ho
 rw [e5]
 by_cases h5:(p.ops.all fun o=>refsO (vertM L) p.id p.ops o)=false
 · rw [if_pos h5,if_pos ((any_all _ _).2 h5)]
 rw [if_neg h5,if_neg (fun h=>h5 ((any_all _ _).1 h))]
theorem file_at(L:List PatchM)(v:VidM):fileAt L v=(optV (vertM L v)).file:=by unfold fileAt optV;cases vertM L v <;> rfl
theorem steps_ok(hw:WfG L)(hc:CheckOk L p):Steps (fun k=>vertM (L++[partP p k])) (fun k=>edgeM (L++[partP p k])) (vertM L) (edgeM L) p.id p.ops:=by
 have h256:∀(i:Nat) (o:OpM),p.ops[i]? = some o→i<256:=fun i o h=>by have:=(List.getElem?_eq_some_iff.1 h).1;have:=(goodP_len hc.good).2;omega
 have h5:∀(i:Nat) (o:OpM),p.ops[i]? = some o→¬ makesB o.kind=true→¬ o.kind.toNat=4→o.kind=5:=fun i o h hm h4=>by
  rcases kind_of hc.good (List.mem_of_getElem? h) with h|h|h|h|h
  · exact absurd ((makes_iff _).2 (.inl h)) hm
  · exact absurd ((makes_iff _).2 (.inr (.inl h))) hm
  · exact absurd ((makes_iff _).2 (.inr (.inr h))) hm
  · exact absurd (by rw [h];rfl) h4
  exact h.1
 refine⟨vert_zero,edge_zero,fun i o h => ?_,fun i o h => ?_⟩
 ·
  unfold stepV
  by_cases hm:makesB o.kind=true
  · rw [if_pos hm];have e:(madeX p.id i o).id=⟨p.id,UInt8.ofNat i⟩:=rfl;rw [e];exact vert_makes hw hc (h256 i o h) h hm
  rw [if_neg hm]
  by_cases h4:o.kind.toNat=4
  · rw [if_pos h4];exact vert_edge hc h ((u8_nat _ 4 (by omega)).2 h4)
  rw [if_neg h4];obtain⟨x,hx⟩:=kill_there hc h (h5 i o h hm h4);show _=updM (vertM (L++[partP p i])) o.at' (killV (optV (vertM (L++[partP p i]) o.at')));rw [hx,optV_some];exact vert_kill hc h (h5 i o h hm h4) hx
 unfold stepE
 by_cases hm:makesB o.kind=true
 · rw [if_pos hm];exact edge_makes hw hc (h256 i o h) h hm
 rw [if_neg hm]
 by_cases h4:o.kind.toNat=4
 · rw [if_pos h4];show _=updM (edgeM (L++[partP p i])) (o.at',o.to) (optV (vertM (L++[partP p i]) o.at')).file;rw [← file_at];exact edge_edge hc h ((u8_nat _ 4 (by omega)).2 h4)
 rw [if_neg h4];exact edge_kill hc h (h5 i o h hm h4)
theorem vec_step(hc:CheckOk L p):setV (vecM L) p.id.author p.id.seq.toNat=vecM (L++[p]):=by
 obtain⟨_,_,h⟩:=next_parts (goodP_id hc.good) hc.next;funext a;rw [vecM_snoc];unfold setV
 by_cases ha:a=p.id.author
 · subst ha;rw [if_pos rfl,if_pos rfl,h]
 rw [if_neg ha,if_neg (fun e=>ha e.symm)];rfl
def GrL(wb:World)(b bv be n:Nat)(L:List PatchM)(w:World):Prop:=
 wb.heap.size≤b∧wb.heap.size≤bv∧wb.heap.size≤be∧GrW w b bv be n (vecM L) (vertM L) (edgeM L)∧Be wb w
def ApRes(wb:World)(b bv be n:Nat)(L:List PatchM)(p:PatchM)(e:Ending)(w':World):Prop:=
 e=.returned (.int .i64 ((checkM L p:Nat):Int))∧GrL wb b bv be (n+p.ops.length) (applyM L p) w'
theorem GrW.mono{w:World}{b bv be n n':Nat}{f:VecM}{v:VidM→Option VertM}{e:EdgeM→Option VidM}(h:GrW w b bv be n f v e)(hn:n≤n'):GrW w b bv be n' f v e:=⟨h.arr,h.verts.mono hn,h.edges.mono hn,h.ne⟩
theorem gapply_L(b bv be n:Nat)(L:List PatchM)(hw:WfG L)(p:PatchM)(dv ov:Value)(wb w:World)(hg:GrL wb b bv be n L w)(hd:GRow encPid 2 wb dv p.deps)(hv:GRow encOp 8 wb ov p.ops)(hl:p.ops.length≤40000)(hz:∀ o∈p.ops,o.text.size≤maxLen)(hn:n+p.ops.length≤4000000000) :
  Calls Tryz.prog 25 #[.pointer (some ⟨b,0,none⟩),patV p.id dv ov] w (ApRes wb b bv be n L p):=by
 obtain⟨k1,k2,k3,hG,hb⟩:=hg
 by_cases hc:checkM L p=0
 ·
  have hok:=check_ok hc;have hx:checkX (vecM L) (vertM L) p.id p.deps p.ops=0:=(checkX_eq hw p).trans hc;obtain⟨ha,_,_⟩:=next_parts (goodP_id hok.good) hok.next;refine(gapply_any b bv be n (vecM L) (vertM L) (edgeM L) p.id dv ov p.deps p.ops _ _ wb w hb k1 k2 k3 hG hw.vec hd hv hl hz hn hx ha (by rw [nextF_eq];exact hok.next) (steps_ok hw hok)).mono ?_;rintro e w' ⟨rfl,hG',hb'⟩;have ha:applyM L p=L++[p]:=by unfold applyM;rw [if_pos hc]
  refine⟨by rw [hc];rfl,k1,k2,k3,?_,hb'⟩;have hG2:GrW w' b bv be (n+p.ops.length) (setV (vecM L) p.id.author p.id.seq.toNat) (vertM (L++[partP p p.ops.length])) (edgeM (L++[partP p p.ops.length])):=hG';rw [part_all,vec_step hok] at hG2;rw [ha];exact hG2
 have ha:applyM L p=L:=by unfold applyM;rw [if_neg hc]
 refine(gapply_no b bv be n (vecM L) (vertM L) (edgeM L) p.id dv ov p.deps p.ops w hG hw.vec (hd.over hb) (hv.over hb) hl hz (by rw [checkX_eq hw];exact hc)).mono ?_;rintro e w' ⟨rfl,hb'⟩;refine⟨by rw [checkX_eq hw],?_⟩;rw [ha];exact⟨k1,k2,k3,(hG.over hb').mono (by omega),bvo hb hb'⟩
end Go.Proofs.YtjccmcgglfncdaaGreatDoor
