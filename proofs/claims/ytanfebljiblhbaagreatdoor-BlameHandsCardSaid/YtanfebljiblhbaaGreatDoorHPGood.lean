/- Contract of patch.Good. -/
import Derived.Test.YtanfebljiblhbaaGreatDoorHSuits
import Derived.Test.YtanfebljiblhbaaGreatDoorHKeys
set_option linter.unusedVariables false
set_option linter.unusedSimpArgs false
namespace Go.Proofs.YtanfebljiblhbaaGreatDoor
open Go Go.RowKit

/-- whether an operation may stand in a patch: as the program asks -/
def oneP(id:PidM)(ops:List OpM)(i:Nat)(o:OpM):Bool:=opGood id i o && (!laterB id o && ((decide (o.kind=5) || suitsM id ops o) && !(decide (o∈ops.take i) && !makesB o.kind)))
def loopP(id:PidM)(ops:List OpM):Bool:=(List.range ops.length).all fun i=>match ops[i]? with|some o=>oneP id ops i o|none=>false
def goodQ(id:PidM)(deps:List PidM)(ops:List OpM):Bool:=goodPid id && (decide (1≤ops.length) && (decide (ops.length≤200) && (decide (deps=depsM id ops) && loopP id ops)))
def seenF(ops:List OpM)(o:OpM):Option Int:=if o∈ops then some ((ops.count o:Nat):Int) else none
theorem seen_nil:seenF []=fun _=>none:=by funext o;simp [seenF]
theorem seen_get(ops:List OpM)(o:OpM):(seenF ops o).getD 0=((ops.count o:Nat):Int):=by
 unfold seenF
 split
 ·
  rfl
 ·
  rename_i h;rw [List.count_eq_zero.2 h];rfl
theorem seen_step(ops:List OpM)(o:OpM):updM (seenF ops) o ((seenF ops o).getD 0+1)=seenF (ops++[o]):=by
 funext x
 rw [seen_get]
 unfold updM seenF
 by_cases h:x=o
 ·
  subst h
  rw [if_pos rfl,if_pos (by simp),List.count_append];simp
 ·
  rw [if_neg h,List.count_append]
  have:List.count x [o]=0:=List.count_eq_zero.2 (by simpa using h)
  rw [this];simp [h]
theorem seen_many(ops:List OpM)(o:OpM):decide (1<(ops.count o:Int)+1)=decide (o∈ops):=by
 rw [decide_eq_decide]
 constructor
 ·
  intro h;exact List.count_pos_iff.1 (by omega)
 ·
  intro h;have:=List.count_pos_iff.2 h;omega
theorem loop_no{id:PidM}{ops:List OpM}{i:Nat}{o:OpM}(ho:ops[i]? = some o)(h:oneP id ops i o=false):loopP id ops=false:=by
 unfold loopP
 refine List.all_eq_false.2 ⟨i,List.mem_range.2 (List.getElem?_eq_some_iff.1 ho).1,?_⟩
 rw [ho];simp [h]
theorem loop_yes{id:PidM}{ops:List OpM}(h:∀ i o,ops[i]? = some o→oneP id ops i o=true):loopP id ops=true:=by
 unfold loopP
 refine List.all_eq_true.2 fun i hi => ?_
 obtain⟨o,ho⟩:=get_of_lt (List.mem_range.1 hi)
 rw [ho];exact h i o ho
theorem one_a{id:PidM}{ops:List OpM}{i:Nat}{o:OpM}(h:opGood id i o=false):oneP id ops i o=false:=by unfold oneP;rw [h];rfl
theorem one_b{id:PidM}{ops:List OpM}{i:Nat}{o:OpM}(h:laterB id o=true):oneP id ops i o=false:=by unfold oneP;rw [h];simp
theorem one_c{id:PidM}{ops:List OpM}{i:Nat}{o:OpM}(h5:¬ o.kind=5)(h:suitsM id ops o=false):oneP id ops i o=false:=by unfold oneP;rw [h];simp [h5]
theorem one_d{id:PidM}{ops:List OpM}{i:Nat}{o:OpM}(h:o∈ops.take i)(hm:makesB o.kind=false):oneP id ops i o=false:=by unfold oneP;rw [hm];simp [h]
theorem one_e{id:PidM}{ops:List OpM}{i:Nat}{o:OpM}(ha:opGood id i o=true)(hb:laterB id o=false)(hc:o.kind=5∨suitsM id ops o=true)(hd:¬ o∈ops.take i∨makesB o.kind=true):oneP id ops i o=true:=by
 have e1:(decide (o.kind=5) || suitsM id ops o)=true:=by rcases hc with h|h <;> simp [h]
 have e2:(decide (o∈ops.take i) && !makesB o.kind)=false:=by rcases hd with h|h <;> simp [h]
 unfold oneP;rw [ha,hb,e1,e2];rfl
theorem own_ref{id:PidM}{i:Nat}{o:OpM}(h:opGood id i o=true){ops:List OpM}(ho:ops[i]? = some o):∀ v∈refsM o,v.pid=id→v.n.toNat<ops.length:=fun v hv e =>
 Nat.lt_trans ((opGood_refs h hv).2 e) (List.getElem?_eq_some_iff.1 ho).1
theorem TMap.ne_arr{P:Program}{k:TypeId}{κ ν:Type}{kenc:κ→Value}{ok:κ→Prop}{venc:ν→Value}{w:World}{b n:Nat}{f:κ→Option ν}(h:TMap P k kenc ok venc w b n f){g:Nat}{cs:List Value}(hA:Arr w g cs):g≠b:=by
 obtain⟨D,⟨es,clock,h1,_⟩,_⟩:=h
 obtain⟨e,h2⟩:=hA
 rintro rfl
 rw [h1] at h2;cases h2
theorem zero_int(u:World):(zeroValue 3).run Tryz.prog u=.ok (.int .i64 0) u:=by kernel_rfl
theorem int_inj(x y:Int)(h:Value.int .i64 x=.int .i64 y):x=y:=by cases h;rfl
theorem pg_next{id:PidM}{ops:List OpM}{i:Nat}{o:OpM}(h:∀ j o,j<i→ops[j]? = some o→oneP id ops j o=true)(ho:ops[i]? = some o)(hn:oneP id ops i o=true):∀ j o,j<i+1→ops[j]? = some o→oneP id ops j o=true:=by
 intro j o' hj hj'
 by_cases e:j=i
 ·
  subst e;rw [ho] at hj';cases hj';exact hn
 ·
  exact h j o' (by omega) hj'
def PgRel(w0:World)(id:PidM)(ops:List OpM)(bm:Nat)(v:Value)(wr:World):Prop:=
 ∃ i:Nat,i≤ops.length∧v=.int .i64 i∧Hid (TMap Tryz.prog 96 opV okOp (Value.int .i64) wr bm i (seenF (ops.take i)))∧Hid (∀ j o,j<i→ops[j]? = some o→oneP id ops j o=true)∧Below w0.heap.size w0 wr
theorem goodQ_a{id:PidM}{deps:List PidM}{ops:List OpM}(h:goodPid id=false):goodQ id deps ops=false:=by unfold goodQ;rw [h];rfl
theorem goodQ_b{id:PidM}{deps:List PidM}{ops:List OpM}(h:¬ 1≤ops.length):goodQ id deps ops=false:=by unfold goodQ;simp;omega
theorem goodQ_c{id:PidM}{deps:List PidM}{ops:List OpM}(h:¬ ops.length≤200):goodQ id deps ops=false:=by unfold goodQ;simp;omega
theorem goodQ_d{id:PidM}{deps:List PidM}{ops:List OpM}(h:¬ deps=depsM id ops):goodQ id deps ops=false:=by unfold goodQ;simp [h]
theorem goodQ_e{id:PidM}{deps:List PidM}{ops:List OpM}(h1:goodPid id=true)(h2:1≤ops.length)(h3:ops.length≤200)(h4:deps=depsM id ops):goodQ id deps ops=loopP id ops:=by unfold goodQ;rw [h1];simp [h2,h3,h4]
attribute [local irreducible] refsM opGood laterB suitsM oneP loopP goodQ goodPid depsM seenF makesB
set_option maxHeartbeats 10000000 in
set_option maxRecDepth 100000 in
theorem pgood_any(id:PidM)(dv ov:Value)(deps:List PidM)(ops:List OpM)(w:World)(hd:GRow encPid 2 w dv deps)(hv:GRow encOp 8 w ov ops)(hl:ops.length≤40000)(hz:∀ o∈ops,o.text.size≤maxLen) :
  Calls Tryz.prog 86 #[patV id dv ov] w fun e w'=>e=.returned (.bool (goodQ id deps ops))∧Below w.heap.size w w':=by
 have HV0:=Lib.hid hv
 have HD0:=Lib.hid hd
 have HZ:=Lib.hid hz
 obtain⟨a,cap,rfl,h1,h2,hc⟩:=hv.at encOp_len
 obtain⟨ad,capd,rfl,h1d,h2d,_⟩:=hd.at encPid_len
 unfold maxLen at h2 h2d
 have HC:=Lib.hid hc
 have HP:=Lib.hid (arr_new w #[.int .u8 id.author.toNat,.int .u16 id.seq.toNat,.slice ad deps.length capd,.slice a ops.length cap] 71)
 have HB:=Lib.hid (below_new (w:=w) (.cells #[.int .u8 id.author.toNat,.int .u16 id.seq.toNat,.slice ad deps.length capd,.slice a ops.length cap] 71))
 clear hv hd hc hz
 unfold patV
 go_enter Tryz.func86,Tryz.ntmps86
 go_upto_region 1 with(fail)
 generalize hw0:w.alloc (.cells #[.int .u8 id.author.toNat,.int .u16 id.seq.toNat,.slice ad deps.length capd,.slice a ops.length cap] 71)=w0 at *
 clear hw0
 have HV:=Lib.hid (HV0.out.over HB.out)
 have HD:=Lib.hid (HD0.out.over HB.out)
 have p0:=HP.out.cell (j:=0) rfl
 have p1:=HP.out.cell (j:=1) rfl
 have p2:=HP.out.cell (j:=2) rfl
 have p3:=HP.out.cell (j:=3) rfl
 have sp:=HP.out.lt
 cases hg:goodPid id with
 | false =>
  have HQ:=Lib.hid (goodQ_a (deps:=deps) (ops:=ops) hg)
  have HG:=Lib.hid hg
  clear hg
  have hcur:Below w0.heap.size w0 w0.drew:=(Below.refl _ _).drew
  refine wp_region_lex (C:=IsOver w0) 27 [] (by kernel_rfl) (by kernel_rfl) (isOver_of hcur) ?_
  simp only [List.take_succ_cons,List.take_zero,List.drop_succ_cons,List.drop_zero]
  repeat(first|(refine lex_skip rfl rfl ?_;simp only [Act.put,List.setIfInBounds_toArray,List.set_cons_succ,List.set_cons_zero])|(refine lex_one rfl ?_;go_big_quiet_step (fail);refine wpQuiet_nil ?_)|(refine lex_loud rfl ?_;go_wp2_with (first|(go_at_call 142;(with_reducible refine(pgoodPid_any id _).mono ?_);rintro e w' ⟨rfl,hb⟩;rw [HG.out];replace hcur:=below_over hcur hcur.size hb;clear hb));refine⟨isOver_of hcur,?_⟩))
  refine lex_end ?_
  have HB3:=Lib.hid (below_over HB.out HB.out.size hcur)
  clear hcur
  go_wp2_with fail
  go_ret
  exact⟨ret_val (congrArg Value.bool HQ.out.symm),HB3.out⟩
 | true =>
  have HG:=Lib.hid hg
  clear hg
  by_cases g1:1≤ops.length
  ·
   have d1:decide ((ops.length:Int)<1)=false:=by simp;omega
   by_cases g2:ops.length≤200
   ·
    have d2:decide ((200:Int)<(ops.length:Int))=false:=by simp;omega
    by_cases g3:deps=depsM id ops
    ·
     have HE:Hid (decide (deps=depsM id ops)=true):=by show _=_;simp [g3]
     have HQ:=Lib.hid (goodQ_e HG.out g1 g2 g3)
     clear g3
     have hcur:Below w0.heap.size w0 w0.drew:=(Below.refl _ _).drew
     refine wp_region_lex (C:=IsOver w0) 27 [] (by kernel_rfl) (by kernel_rfl) (isOver_of hcur) ?_
     simp only [List.take_succ_cons,List.take_zero,List.drop_succ_cons,List.drop_zero]
     repeat(first|(refine lex_skip rfl rfl ?_;simp only [Act.put,List.setIfInBounds_toArray,List.set_cons_succ,List.set_cons_zero])|(refine lex_one rfl ?_;go_big_quiet_step (fail);refine wpQuiet_nil ?_)|(refine lex_loud rfl ?_;go_wp2_with (first|(go_at_call 142;(with_reducible refine(pgoodPid_any id _).mono ?_);rintro e w' ⟨rfl,hb⟩;rw [HG.out];replace hcur:=below_over hcur hcur.size hb;clear hb)|(go_at_call 84;(with_reducible refine(pdeps_any id _ ops _ (HV.out.over hcur) hl).mono ?_);rintro e w' ⟨dv2,rfl,hd2,hb⟩;have HD2:=Lib.hid hd2.row;replace hcur:=below_over hcur hcur.size hb;clear hb hd2)|(go_at_call 62;(with_reducible refine(equalPid_any _ _ deps (depsM id ops) _ (HD.out.over hcur) HD2.out).mono ?_);rintro e wA ⟨rfl,hb⟩;rw [HE.out];replace hcur:=below_over hcur hcur.size hb;clear hb));refine⟨isOver_of hcur,?_⟩))
     refine lex_end ?_
     have HA0:=Lib.hid hcur
     have hAs:=hcur.size
     have hmm:=@run_makeMap Tryz.prog
     have HPA:=Lib.hid (HP.out.over hcur)
     clear hcur p0 p1 p2 p3 sp
     have p0:=HPA.out.cell (j:=0) rfl
     have p1:=HPA.out.cell (j:=1) rfl
     have p2:=HPA.out.cell (j:=2) rfl
     have p3:=HPA.out.cell (j:=3) rfl
     have sp:=HPA.out.lt
     go_wp2_with fail
     clear p0 p1 p2 p3 sp
     go_loopw [37] (fun v37 wr=>PgRel w0 id ops wA.heap.size v37 wr) (fun v37 _=>ops.length - (intOf v37).toNat)
     case atStart=>exact⟨0,by omega,rfl,(by show TMap _ _ _ _ _ _ _ _ _;rw [List.take_zero,seen_nil];exact TMap.made wA),fun j o hj=>absurd hj (Nat.not_lt_zero _),HA0.out.alloc hAs _⟩
     case round =>
      obtain⟨i,hi,rfl,HM,HK,hbl⟩:=hrel
      by_cases hlt:i<ops.length
      ·
       obtain⟨b,off,rfl,sb,hcb⟩:=HC.out.resolve_left (by omega)
       obtain⟨o,ho⟩:=get_of_lt hlt
       have HCo:=Lib.hid (hcb i o ho wr (below_over HB.out HB.out.size hbl))
       have HOo:=Lib.hid ho
       have hzo:o.text.size≤maxLen:=HZ.out o (List.mem_of_getElem? ho)
       have HZo:=Lib.hid hzo
       have HPr:=Lib.hid (HP.out.over hbl)
       have o0:wr.cell? ⟨b,off+i*8,none⟩=some (.int .u8 o.kind.toNat):=HCo.out.2 0 _ rfl
       have o1:wr.cell? ⟨b,off+i*8+1,none⟩=some (.int .u8 o.at'.pid.author.toNat):=HCo.out.2 1 _ rfl
       have o2:wr.cell? ⟨b,off+i*8+2,none⟩=some (.int .u16 o.at'.pid.seq.toNat):=HCo.out.2 2 _ rfl
       have o3:wr.cell? ⟨b,off+i*8+3,none⟩=some (.int .u8 o.at'.n.toNat):=HCo.out.2 3 _ rfl
       have o4:wr.cell? ⟨b,off+i*8+4,none⟩=some (.int .u8 o.to.pid.author.toNat):=HCo.out.2 4 _ rfl
       have o5:wr.cell? ⟨b,off+i*8+5,none⟩=some (.int .u16 o.to.pid.seq.toNat):=HCo.out.2 5 _ rfl
       have o6:wr.cell? ⟨b,off+i*8+6,none⟩=some (.int .u8 o.to.n.toNat):=HCo.out.2 6 _ rfl
       have o7:wr.cell? ⟨b,off+i*8+7,none⟩=some (.string o.text):=HCo.out.2 7 _ rfl
       have so:=HCo.out.1
       clear hcb ho hzo
       have HOb:Hid (Arr (wr.alloc (.cells #[.int .u8 o.kind.toNat,.int .u8 o.at'.pid.author.toNat,.int .u16 o.at'.pid.seq.toNat,.int .u8 o.at'.n.toNat,.int .u8 o.to.pid.author.toNat,.int .u16 o.to.pid.seq.toNat,.int .u8 o.to.n.toNat,.string o.text] 96)) wr.heap.size [.int .u8 o.kind.toNat,.int .u8 o.at'.pid.author.toNat,.int .u16 o.at'.pid.seq.toNat,.int .u8 o.at'.n.toNat,.int .u8 o.to.pid.author.toNat,.int .u16 o.to.pid.seq.toNat,.int .u8 o.to.n.toNat,.string o.text]):=arr_new _ _ _
       have HMb:=Lib.hid (HM.out.alloc (.cells #[.int .u8 o.kind.toNat,.int .u8 o.at'.pid.author.toNat,.int .u16 o.at'.pid.seq.toNat,.int .u8 o.at'.n.toNat,.int .u8 o.to.pid.author.toNat,.int .u16 o.to.pid.seq.toNat,.int .u8 o.to.n.toNat,.string o.text] 96))
       have HBb:=Lib.hid (below_over hbl hbl.size (below_new (w:=wr) (.cells #[.int .u8 o.kind.toNat,.int .u8 o.at'.pid.author.toNat,.int .u16 o.at'.pid.seq.toNat,.int .u8 o.at'.n.toNat,.int .u8 o.to.pid.author.toNat,.int .u16 o.to.pid.seq.toNat,.int .u8 o.to.n.toNat,.string o.text] 96)))
       go_upto_region 7 with(fail)
       generalize hwo:wr.alloc (.cells #[.int .u8 o.kind.toNat,.int .u8 o.at'.pid.author.toNat,.int .u16 o.at'.pid.seq.toNat,.int .u8 o.at'.n.toNat,.int .u8 o.to.pid.author.toNat,.int .u16 o.to.pid.seq.toNat,.int .u8 o.to.n.toNat,.string o.text] 96)=wo at *
       clear hwo so o0 o1 o2 o3 o4 o5 o6 o7
       have HPo:=Lib.hid (HP.out.over HBb.out)
       have o0:=HOb.out.cell (j:=0) rfl
       have o1:=HOb.out.cell (j:=1) rfl
       have o2:=HOb.out.cell (j:=2) rfl
       have o3:=HOb.out.cell (j:=3) rfl
       have o4:=HOb.out.cell (j:=4) rfl
       have o5:=HOb.out.cell (j:=5) rfl
       have o6:=HOb.out.cell (j:=6) rfl
       have o7:=HOb.out.cell (j:=7) rfl
       have so:=HOb.out.lt
       have p0:=HPo.out.cell (j:=0) rfl
       have p1:=HPo.out.cell (j:=1) rfl
       have p2:=HPo.out.cell (j:=2) rfl
       have p3:=HPo.out.cell (j:=3) rfl
       have sp:=HPo.out.lt
       go_wp2_with fail
       refine(pogood_any id i o _ (by omega) HZo.out).mono ?_
       rintro e w1 ⟨rfl,hb1⟩
       have HB1:=Lib.hid (below_over HBb.out HBb.out.size hb1)
       have HO1:=Lib.hid (HOb.out.over hb1)
       have HM1:=Lib.hid (HMb.out.over hb1)
       have HP1:=Lib.hid (HP.out.over HB1.out)
       clear o0 o1 o2 o3 o4 o5 o6 o7 so p0 p1 p2 p3 sp hb1
       cases hg1:opGood id i o with
       | false =>
        have HN:=Lib.hid (loop_no HOo.out (one_a hg1))
        clear hg1
        go_wp2_with fail
        go_ret
        exact⟨ret_val (congrArg Value.bool (HQ.out.trans HN.out).symm),below_over HB.out HB.out.size HB1.out⟩
       | true =>
        have HG1:=Lib.hid hg1
        clear hg1
        have o0:=HO1.out.cell (j:=0) rfl
        have o1:=HO1.out.cell (j:=1) rfl
        have o2:=HO1.out.cell (j:=2) rfl
        have o3:=HO1.out.cell (j:=3) rfl
        have o4:=HO1.out.cell (j:=4) rfl
        have o5:=HO1.out.cell (j:=5) rfl
        have o6:=HO1.out.cell (j:=6) rfl
        have o7:=HO1.out.cell (j:=7) rfl
        have so:=HO1.out.lt
        have p0:=HP1.out.cell (j:=0) rfl
        have p1:=HP1.out.cell (j:=1) rfl
        have p2:=HP1.out.cell (j:=2) rfl
        have p3:=HP1.out.cell (j:=3) rfl
        have sp:=HP1.out.lt
        go_wp2_with fail
        refine(plater_any id o _).mono ?_
        rintro e w2 ⟨rfl,hb2⟩
        have HB2:=Lib.hid (below_over HB1.out HB1.out.size hb2)
        have HO2:=Lib.hid (HO1.out.over hb2)
        have HM2:=Lib.hid (HM1.out.over hb2)
        have HP2:=Lib.hid (HP.out.over HB2.out)
        clear o0 o1 o2 o3 o4 o5 o6 o7 so p0 p1 p2 p3 sp hb2
        cases hl1:laterB id o with
        | true =>
         have HN:=Lib.hid (loop_no HOo.out (one_b (i:=i) (ops:=ops) hl1))
         clear hl1
         go_wp2_with fail
         go_ret
         exact⟨ret_val (congrArg Value.bool (HQ.out.trans HN.out).symm),below_over HB.out HB.out.size HB2.out⟩
        | false =>
         have HL1:=Lib.hid hl1
         clear hl1
         have o0:=HO2.out.cell (j:=0) rfl
         have o1:=HO2.out.cell (j:=1) rfl
         have o2:=HO2.out.cell (j:=2) rfl
         have o3:=HO2.out.cell (j:=3) rfl
         have o4:=HO2.out.cell (j:=4) rfl
         have o5:=HO2.out.cell (j:=5) rfl
         have o6:=HO2.out.cell (j:=6) rfl
         have o7:=HO2.out.cell (j:=7) rfl
         have so:=HO2.out.lt
         have p0:=HP2.out.cell (j:=0) rfl
         have p1:=HP2.out.cell (j:=1) rfl
         have p2:=HP2.out.cell (j:=2) rfl
         have p3:=HP2.out.cell (j:=3) rfl
         have sp:=HP2.out.lt
         by_cases h5:o.kind.toNat=5
         ·
          have e5:((o.kind.toNat:Int) != 5)=false:=by simp;omega
          have HK5:Hid (o.kind=5∨suitsM id ops o=true):=.inl ((u8_nat _ 5 (by omega)).2 h5)
          clear h5
          go_upto_region 9 with(fail)
          obtain⟨v0,st,wa,e1,g1,s1,lk1,hst⟩:=TMap.entry keysOp lawOp int_inj HM2.out.drew Tryz.underlying224 (zv:=0) zero_int (by unfold maxLen;omega) o HZo.out
          obtain⟨wb,e2,m4,g4,s4⟩:=hst wa ((seenF (ops.take i) o).getD 0+1) rfl
          have lk0:=TMap.lookup keysOp int_inj HM2.out.drew Tryz.underlying224 (zv:=0) (zero_int _) o HZo.out
          have lk4:=TMap.lookup keysOp int_inj m4 Tryz.underlying224 (zv:=0) (zero_int _) o HZo.out
          have hup:(updM (seenF (ops.take i)) o ((seenF (ops.take i) o).getD 0+1) o).getD 0=(seenF (ops.take i) o).getD 0+1:=by simp [updM]
          rw [hup] at lk4
          rw [seen_step,← take_succ_get HOo.out] at m4
          rw [seen_get] at lk0 lk1 lk4 e2
          have hcnt:(ops.take i).count o≤i:=Nat.le_trans List.count_le_length (List.length_take_le _ _)
          have HSM:=Lib.hid (seen_many (ops.take i) o)
          generalize (ops.take i).count o=c at *
          unfold opV at e1 lk0 lk1 lk4
          have HMb4:=Lib.hid m4
          have HG4:Hid (World.grownBy w2 wb (some wA.heap.size)):=grown_trans (grown_trans (grown_drew (World.grownBy.refl w2 _)) g1) g4
          have hne:=TMap.ne_arr HM2.out HO2.out
          have HO4:=Lib.hid (HO2.out.grown HG4.out (by simp;exact hne))
          have HB4:=Lib.hid (HB2.out.grown HG4.out HB2.out.size fun k hk=>by cases hk;exact hAs)
          clear hst hup m4 g1 g4;(try clear p0 p1 p2 p3 sp)
          go_region
          clear lk0 lk1 e1 e2 o0 o1 o2 o3 o4 o5 o6 o7 so
          have o0:=HO4.out.cell (j:=0) rfl
          have o1:=HO4.out.cell (j:=1) rfl
          have o2:=HO4.out.cell (j:=2) rfl
          have o3:=HO4.out.cell (j:=3) rfl
          have o4:=HO4.out.cell (j:=4) rfl
          have o5:=HO4.out.cell (j:=5) rfl
          have o6:=HO4.out.cell (j:=6) rfl
          have o7:=HO4.out.cell (j:=7) rfl
          have so:=HO4.out.lt
          by_cases hmem:o∈ops.take i
          ·
           have d4:decide (1<(c:Int)+1)=true:=by rw [HSM.out];simp [hmem]
           cases hmk:makesB o.kind with
           | false =>
            have HN:=Lib.hid (loop_no HOo.out (one_d (id:=id) hmem hmk))
            have HMK:=Lib.hid hmk
            clear hmk hmem
            go_wp2_with fail
            refine(pmakes_any o.kind _).mono ?_
            rintro e w9 ⟨rfl,rfl⟩
            rw [HMK.out]
            go_wp2_with fail
            go_ret
            exact⟨ret_val (congrArg Value.bool (HQ.out.trans HN.out).symm),below_over HB.out HB.out.size HB4.out⟩
           | true =>
            have HN:=Lib.hid (one_e HG1.out HL1.out HK5.out (.inr hmk))
            have HMK:=Lib.hid hmk
            clear hmk hmem
            go_wp2_with fail
            refine(pmakes_any o.kind _).mono ?_
            rintro e w9 ⟨rfl,rfl⟩
            rw [HMK.out]
            go_wp2_with fail
            go_roundw
            case rel=>exact⟨i+1,hlt,by go_num,HMb4,pg_next HK.out HOo.out HN.out,HB4.out⟩
            case measure=>simp [intOf];omega
          ·
           have d4:decide (1<(c:Int)+1)=false:=by rw [HSM.out];simp [hmem]
           have HN:=Lib.hid (one_e HG1.out HL1.out HK5.out (.inl hmem))
           clear hmem
           go_wp2_with fail
           go_roundw
           case rel=>exact⟨i+1,hlt,by go_num,HMb4,pg_next HK.out HOo.out HN.out,HB4.out⟩
           case measure=>simp [intOf];omega
         ·
          have e5:((o.kind.toNat:Int) != 5)=true:=by simp;omega
          have HK5:Hid (¬ o.kind=5):=fun h=>h5 ((u8_nat _ 5 (by omega)).1 h)
          clear h5
          go_wp2_with fail
          refine(psuits_any id _ _ ops o _ (HV.out.over HB2.out) (own_ref HG1.out HOo.out)).mono ?_
          rintro e w3 ⟨rfl,hb3⟩
          have HB3:=Lib.hid (below_over HB2.out HB2.out.size hb3)
          have HO3:=Lib.hid (HO2.out.over hb3)
          have HM3:=Lib.hid (HM2.out.over hb3)
          clear o0 o1 o2 o3 o4 o5 o6 o7 so p0 p1 p2 p3 sp hb3
          cases hs1:suitsM id ops o with
          | false =>
           have HN:=Lib.hid (loop_no HOo.out (one_c (i:=i) HK5.out hs1))
           clear hs1
           go_wp2_with fail
           go_ret
           exact⟨ret_val (congrArg Value.bool (HQ.out.trans HN.out).symm),below_over HB.out HB.out.size HB3.out⟩
          | true =>
           have HK5:Hid (o.kind=5∨suitsM id ops o=true):=.inr hs1
           clear hs1
           go_upto_region 9 with(fail)
           have o0:=HO3.out.cell (j:=0) rfl
           have o1:=HO3.out.cell (j:=1) rfl
           have o2:=HO3.out.cell (j:=2) rfl
           have o3:=HO3.out.cell (j:=3) rfl
           have o4:=HO3.out.cell (j:=4) rfl
           have o5:=HO3.out.cell (j:=5) rfl
           have o6:=HO3.out.cell (j:=6) rfl
           have o7:=HO3.out.cell (j:=7) rfl
           have so:=HO3.out.lt
           obtain⟨v0,st,wa,e1,g1,s1,lk1,hst⟩:=TMap.entry keysOp lawOp int_inj HM3.out.drew Tryz.underlying224 (zv:=0) zero_int (by unfold maxLen;omega) o HZo.out
           obtain⟨wb,e2,m4,g4,s4⟩:=hst wa ((seenF (ops.take i) o).getD 0+1) rfl
           have lk0:=TMap.lookup keysOp int_inj HM3.out.drew Tryz.underlying224 (zv:=0) (zero_int _) o HZo.out
           have lk4:=TMap.lookup keysOp int_inj m4 Tryz.underlying224 (zv:=0) (zero_int _) o HZo.out
           have hup:(updM (seenF (ops.take i)) o ((seenF (ops.take i) o).getD 0+1) o).getD 0=(seenF (ops.take i) o).getD 0+1:=by simp [updM]
           rw [hup] at lk4
           rw [seen_step,← take_succ_get HOo.out] at m4
           rw [seen_get] at lk0 lk1 lk4 e2
           have hcnt:(ops.take i).count o≤i:=Nat.le_trans List.count_le_length (List.length_take_le _ _)
           have HSM:=Lib.hid (seen_many (ops.take i) o)
           generalize (ops.take i).count o=c at *
           unfold opV at e1 lk0 lk1 lk4
           have HMb4:=Lib.hid m4
           have HG4:Hid (World.grownBy w3 wb (some wA.heap.size)):=grown_trans (grown_trans (grown_drew (World.grownBy.refl w3 _)) g1) g4
           have hne:=TMap.ne_arr HM3.out HO3.out
           have HO4:=Lib.hid (HO3.out.grown HG4.out (by simp;exact hne))
           have HB4:=Lib.hid (HB3.out.grown HG4.out HB3.out.size fun k hk=>by cases hk;exact hAs)
           clear hst hup m4 g1 g4;(try clear p0 p1 p2 p3 sp)
           go_region
           clear lk0 lk1 e1 e2 o0 o1 o2 o3 o4 o5 o6 o7 so
           have o0:=HO4.out.cell (j:=0) rfl
           have o1:=HO4.out.cell (j:=1) rfl
           have o2:=HO4.out.cell (j:=2) rfl
           have o3:=HO4.out.cell (j:=3) rfl
           have o4:=HO4.out.cell (j:=4) rfl
           have o5:=HO4.out.cell (j:=5) rfl
           have o6:=HO4.out.cell (j:=6) rfl
           have o7:=HO4.out.cell (j:=7) rfl
           have so:=HO4.out.lt
           by_cases hmem:o∈ops.take i
           ·
            have d4:decide (1<(c:Int)+1)=true:=by rw [HSM.out];simp [hmem]
            cases hmk:makesB o.kind with
            | false =>
             have HN:=Lib.hid (loop_no HOo.out (one_d (id:=id) hmem hmk))
             have HMK:=Lib.hid hmk
             clear hmk hmem
             go_wp2_with fail
             refine(pmakes_any o.kind _).mono ?_
             rintro e w9 ⟨rfl,rfl⟩
             rw [HMK.out]
             go_wp2_with fail
             go_ret
             exact⟨ret_val (congrArg Value.bool (HQ.out.trans HN.out).symm),below_over HB.out HB.out.size HB4.out⟩
            | true =>
             have HN:=Lib.hid (one_e HG1.out HL1.out HK5.out (.inr hmk))
             have HMK:=Lib.hid hmk
             clear hmk hmem
             go_wp2_with fail
             refine(pmakes_any o.kind _).mono ?_
             rintro e w9 ⟨rfl,rfl⟩
             rw [HMK.out]
             go_wp2_with fail
             go_roundw
             case rel=>exact⟨i+1,hlt,by go_num,HMb4,pg_next HK.out HOo.out HN.out,HB4.out⟩
             case measure=>simp [intOf];omega
           ·
            have d4:decide (1<(c:Int)+1)=false:=by rw [HSM.out];simp [hmem]
            have HN:=Lib.hid (one_e HG1.out HL1.out HK5.out (.inl hmem))
            clear hmem
            go_wp2_with fail
            go_roundw
            case rel=>exact⟨i+1,hlt,by go_num,HMb4,pg_next HK.out HOo.out HN.out,HB4.out⟩
            case measure=>simp [intOf];omega
      ·
       obtain rfl:i=ops.length:=by omega
       have HN:=Lib.hid (loop_yes (id:=id) (ops:=ops) fun j o ho=>HK.out j o (List.getElem?_eq_some_iff.1 ho).1 ho)
       go_wp2_with fail
       go_ret
       exact⟨ret_val (congrArg Value.bool (HQ.out.trans HN.out).symm),below_over HB.out HB.out.size hbl⟩
    ·
     have HE:Hid (decide (deps=depsM id ops)=false):=by show _=_;simp [g3]
     have HQ:=Lib.hid (goodQ_d (deps:=deps) g3)
     clear g3
     have hcur:Below w0.heap.size w0 w0.drew:=(Below.refl _ _).drew
     refine wp_region_lex (C:=IsOver w0) 27 [] (by kernel_rfl) (by kernel_rfl) (isOver_of hcur) ?_
     simp only [List.take_succ_cons,List.take_zero,List.drop_succ_cons,List.drop_zero]
     repeat(first|(refine lex_skip rfl rfl ?_;simp only [Act.put,List.setIfInBounds_toArray,List.set_cons_succ,List.set_cons_zero])|(refine lex_one rfl ?_;go_big_quiet_step (fail);refine wpQuiet_nil ?_)|(refine lex_loud rfl ?_;go_wp2_with (first|(go_at_call 142;(with_reducible refine(pgoodPid_any id _).mono ?_);rintro e w' ⟨rfl,hb⟩;rw [HG.out];replace hcur:=below_over hcur hcur.size hb;clear hb)|(go_at_call 84;(with_reducible refine(pdeps_any id _ ops _ (HV.out.over hcur) hl).mono ?_);rintro e w' ⟨dv2,rfl,hd2,hb⟩;have HD2:=Lib.hid hd2.row;replace hcur:=below_over hcur hcur.size hb;clear hb hd2)|(go_at_call 62;(with_reducible refine(equalPid_any _ _ deps (depsM id ops) _ (HD.out.over hcur) HD2.out).mono ?_);rintro e w' ⟨rfl,hb⟩;rw [HE.out];replace hcur:=below_over hcur hcur.size hb;clear hb));refine⟨isOver_of hcur,?_⟩))
     refine lex_end ?_
     have HB3:=Lib.hid (below_over HB.out HB.out.size hcur)
     clear hcur
     go_wp2_with fail
     go_ret
     exact⟨ret_val (congrArg Value.bool HQ.out.symm),HB3.out⟩
   ·
    have d2:decide ((200:Int)<(ops.length:Int))=true:=by simp;omega
    have HQ:=Lib.hid (goodQ_c (id:=id) (deps:=deps) g2)
    have hcur:Below w0.heap.size w0 w0.drew:=(Below.refl _ _).drew
    refine wp_region_lex (C:=IsOver w0) 27 [] (by kernel_rfl) (by kernel_rfl) (isOver_of hcur) ?_
    simp only [List.take_succ_cons,List.take_zero,List.drop_succ_cons,List.drop_zero]
    repeat(first|(refine lex_skip rfl rfl ?_;simp only [Act.put,List.setIfInBounds_toArray,List.set_cons_succ,List.set_cons_zero])|(refine lex_one rfl ?_;go_big_quiet_step (fail);refine wpQuiet_nil ?_)|(refine lex_loud rfl ?_;go_wp2_with (first|(go_at_call 142;(with_reducible refine(pgoodPid_any id _).mono ?_);rintro e w' ⟨rfl,hb⟩;rw [HG.out];replace hcur:=below_over hcur hcur.size hb;clear hb));refine⟨isOver_of hcur,?_⟩))
    refine lex_end ?_
    have HB3:=Lib.hid (below_over HB.out HB.out.size hcur)
    clear hcur
    go_wp2_with fail
    go_ret
    exact⟨ret_val (congrArg Value.bool HQ.out.symm),HB3.out⟩
  ·
   have d1:decide ((ops.length:Int)<1)=true:=by simp;omega
   have HQ:=Lib.hid (goodQ_b (id:=id) (deps:=deps) g1)
   have hcur:Below w0.heap.size w0 w0.drew:=(Below.refl _ _).drew
   refine wp_region_lex (C:=IsOver w0) 27 [] (by kernel_rfl) (by kernel_rfl) (isOver_of hcur) ?_
   simp only [List.take_succ_cons,List.take_zero,List.drop_succ_cons,List.drop_zero]
   repeat(first|(refine lex_skip rfl rfl ?_;simp only [Act.put,List.setIfInBounds_toArray,List.set_cons_succ,List.set_cons_zero])|(refine lex_one rfl ?_;go_big_quiet_step (fail);refine wpQuiet_nil ?_)|(refine lex_loud rfl ?_;go_wp2_with (first|(go_at_call 142;(with_reducible refine(pgoodPid_any id _).mono ?_);rintro e w' ⟨rfl,hb⟩;rw [HG.out];replace hcur:=below_over hcur hcur.size hb;clear hb));refine⟨isOver_of hcur,?_⟩))
   refine lex_end ?_
   have HB3:=Lib.hid (below_over HB.out HB.out.size hcur)
   clear hcur
   go_wp2_with fail
   go_ret
   exact⟨ret_val (congrArg Value.bool HQ.out.symm),HB3.out⟩
end Go.Proofs.YtanfebljiblhbaaGreatDoor
