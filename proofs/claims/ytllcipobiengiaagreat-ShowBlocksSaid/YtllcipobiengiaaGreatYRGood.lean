/- Contract of bruitref18.own. Contract of bruitref18.one. Contract of bruitref18.Good. -/
import Derived.Test.YtllcipobiengiaaGreatYSuits
set_option linter.unusedVariables false
set_option linter.unusedSimpArgs false
namespace Go.Proofs.YtllcipobiengiaaGreat
open Go Go.RowKit

def ownM(id:PidM)(ops:List OpM)(v:VidM)(k:UInt8):Bool:=decide (v.pid≠id) || (match ops[v.n.toNat]? with|some o=>o.kind == k|none=>false)
theorem own_far{id:PidM}{ops:List OpM}{v:VidM}{k:UInt8}(h:¬ v.pid=id):ownM id ops v k=true:=by unfold ownM;simp [h]
theorem own_out{id:PidM}{ops:List OpM}{v:VidM}{k:UInt8}(h:v.pid=id)(hn:¬ v.n.toNat<ops.length):ownM id ops v k=false:=by unfold ownM;rw [List.getElem?_eq_none (by omega)];simp [h]
theorem own_in{id:PidM}{ops:List OpM}{v:VidM}{k:UInt8}(h:v.pid=id){o:OpM}(ho:ops[v.n.toNat]? = some o):ownM id ops v k=(o.kind == k):=by unfold ownM;rw [ho];simp [h]
attribute [local irreducible] ownM
set_option maxHeartbeats 4000000 in
set_option maxRecDepth 100000 in
theorem rown_any(id:PidM)(dv ov:Value)(ops:List OpM)(v:VidM)(k:UInt8)(w:World)(hv:GRow encOp 8 w ov ops) :
  Calls Tryz.prog 200 #[patV id dv ov,vidV v,.int .u8 k.toNat] w fun e w'=>e=.returned (.bool (ownM id ops v k))∧Below w.heap.size w w':=by
 obtain⟨a,cap,rfl,h1,h2,hc⟩:=hv.at encOp_len
 unfold maxLen at h2
 have HC:=Lh hc
 have HP:=Lh ((anw w #[.int .u8 id.author.toNat,.int .u16 id.seq.toNat,dv,.slice a ops.length cap] 61).alloc (.cells #[.int .u8 v.pid.author.toNat,.int .u16 v.pid.seq.toNat,.int .u8 v.n.toNat] 40))
 have HV:=Lh (an2 w (.cells #[.int .u8 id.author.toNat,.int .u16 id.seq.toNat,dv,.slice a ops.length cap] 61) #[.int .u8 v.pid.author.toNat,.int .u16 v.pid.seq.toNat,.int .u8 v.n.toNat] 40)
 have HB:=Lh ((bnew (w:=w) (.cells #[.int .u8 id.author.toNat,.int .u16 id.seq.toNat,dv,.slice a ops.length cap] 61)).alloc (by simp) (.cells #[.int .u8 v.pid.author.toNat,.int .u16 v.pid.seq.toNat,.int .u8 v.n.toNat] 40))
 have gd:=fun p q xs ys w=>guard_pid .neq p q xs ys w
 have hnl:=v.n.toNat_lt
 clear hv hc
 unfold patV vidV
 go_enter Tryz.func200,Tryz.ntmps200
 go_upto_region 1 with(fail)
 generalize hw0:(w.alloc (.cells #[.int .u8 id.author.toNat,.int .u16 id.seq.toNat,dv,.slice a ops.length cap] 61)).alloc (.cells #[.int .u8 v.pid.author.toNat,.int .u16 v.pid.seq.toNat,.int .u8 v.n.toNat] 40)=w0 at *
 clear hw0
 have p0:=HP.out.k 0 rfl
 have p1:=HP.out.k 1 rfl
 have p2:=HP.out.k 2 rfl
 have p3:=HP.out.k 3 rfl
 have sp:=HP.out.lt
 have v0:=HV.out.k 0 rfl
 have v1:=HV.out.k 1 rfl
 have v2:=HV.out.k 2 rfl
 have sv:=HV.out.lt
 by_cases hp:v.pid=id
 ·
  have e1:=neq_pid v.pid id false (by simp [hp])
  unfold pidV at e1
  by_cases hn:v.n.toNat<ops.length
  ·
   have e2:decide (v.n.toNat<ops.length)=true:=by simpa using hn
   obtain⟨b,off,rfl,sb,hcb⟩:=HC.out.resolve_left (by omega)
   obtain⟨o,ho⟩:=get_op hn
   have HO:=Lh (hcb v.n.toNat o ho w0 HB.out)
   have o0:w0.cell? ⟨b,off+v.n.toNat*8,none⟩=some (.int .u8 o.kind.toNat):=HO.out.2 0 _ rfl
   have so:=HO.out.1
   by_cases hk:o.kind=k
   ·
    have HK:Hid (ownM id ops v k=true):=by show _=_;rw [own_in hp ho];simp [hk]
    have e3:((o.kind.toNat:Int) == (k.toNat:Int))=true:=by simp [hk]
    clear hp hcb ho hk
    go_wp2_with fail
    go_ret
    exact⟨rvl (congrArg Value.bool HK.out.symm),HB.out⟩
   ·
    have HK:Hid (ownM id ops v k=false):=by show _=_;rw [own_in hp ho];simp [hk]
    have e3:((o.kind.toNat:Int) == (k.toNat:Int))=false:=by
     simp;intro h;exact hk (UInt8.toNat_inj.1 (by omega))
    clear hp hcb ho hk
    go_wp2_with fail
    go_ret
    exact⟨rvl (congrArg Value.bool HK.out.symm),HB.out⟩
  ·
   have e2:decide (v.n.toNat<ops.length)=false:=by simpa using hn
   have HK:=Lh (own_out (k:=k) hp hn)
   clear hp hn
   go_wp2_with fail
   go_ret
   exact⟨rvl (congrArg Value.bool HK.out.symm),HB.out⟩
 ·
  have e1:=neq_pid v.pid id true (by simp [hp])
  unfold pidV at e1
  have HK:=Lh (own_far (ops:=ops) (k:=k) hp)
  clear hp
  go_wp2_with fail
  go_ret
  exact⟨rvl (congrArg Value.bool HK.out.symm),HB.out⟩
end Go.Proofs.YtllcipobiengiaaGreat
namespace Go.Proofs.YtllcipobiengiaaGreat
open Go Go.RowKit

def kindsR(id:PidM)(ops:List OpM)(o:OpM):Bool:=
 if o.kind=2∨o.kind=3 then ownM id ops o.at' 1
 else if o.kind=4 then ownM id ops o.at' 3 && (ownM id ops o.to 3 && (decide (o.at'.pid≠id) || (decide (o.to.pid≠id) || decide ((ops[o.at'.n.toNat]?).map (·.at')=(ops[o.to.n.toNat]?).map (·.at')))))
 else true
def oneR(id:PidM)(ops:List OpM)(i:Nat)(o:OpM):Bool:=opGood id i o && (!laterB id o && (!(decide (4≤o.kind.toNat) && decide (o∈ops.take i)) && kindsR id ops o))
theorem oneR_a{id:PidM}{ops:List OpM}{i:Nat}{o:OpM}(h:opGood id i o=false):oneR id ops i o=false:=by unfold oneR;rw [h];rfl
theorem oneR_b{id:PidM}{ops:List OpM}{i k:Nat}{o:OpM}{v:VidM}(hv:(refsM o)[k]? = some v)(h:laterOne id v=true):oneR id ops i o=false:=by
 have:laterB id o=true:=by rw [laterB_eq];exact List.any_eq_true.2 ⟨v,List.mem_of_getElem? hv,h⟩
 unfold oneR;rw [this];simp
theorem oneR_c{id:PidM}{ops:List OpM}{i k:Nat}{o:OpM}(h4:4≤o.kind.toNat)(hk:k<i)(ho:ops[k]? = some o):oneR id ops i o=false:=by
 have:o∈ops.take i:=List.mem_iff_getElem?.2 ⟨k,by rw [List.getElem?_take,if_pos hk];exact ho⟩
 unfold oneR;simp [h4,this]
theorem oneR_d{id:PidM}{ops:List OpM}{i:Nat}{o:OpM}(ha:opGood id i o=true)(hb:((refsM o).take (refsM o).length).any (laterOne id)=false)(hc:4≤o.kind.toNat→∀ j,j<i→ops[j]? ≠ some o):oneR id ops i o=kindsR id ops o:=by
 rw [List.take_length] at hb
 have h1:laterB id o=false:=by rw [laterB_eq];exact hb
 have h2:(decide (4≤o.kind.toNat) && decide (o∈ops.take i))=false:=by
  by_cases h4:4≤o.kind.toNat
  ·
   have:¬ o∈ops.take i:=fun hm=>by
    obtain⟨j,hj⟩:=List.mem_iff_getElem?.1 hm
    have hji:j<i:=by have:=(List.getElem?_eq_some_iff.1 hj).1;rw [List.length_take] at this;omega
    rw [List.getElem?_take,if_pos hji] at hj
    exact hc h4 j hji hj
   simp [this]
  ·
   simp [h4]
 unfold oneR;rw [ha,h1,h2];rfl
theorem kindsR_2{id:PidM}{ops:List OpM}{o:OpM}(h:o.kind.toNat=2∨o.kind.toNat=3):kindsR id ops o=ownM id ops o.at' 1:=by
 unfold kindsR;rw [if_pos]
 rcases h with h|h
 ·
  exact .inl ((u8_nat _ 2 (by omega)).2 h)
 ·
  exact .inr ((u8_nat _ 3 (by omega)).2 h)
theorem kindsR_4{id:PidM}{ops:List OpM}{o:OpM}(h:o.kind.toNat=4):kindsR id ops o=(ownM id ops o.at' 3 && (ownM id ops o.to 3 && (decide (o.at'.pid≠id) || (decide (o.to.pid≠id) || decide ((ops[o.at'.n.toNat]?).map (·.at')=(ops[o.to.n.toNat]?).map (·.at')))))):=by
 have h4:o.kind=4:=(u8_nat _ 4 (by omega)).2 h
 unfold kindsR;rw [h4];rfl
theorem kindsR_1{id:PidM}{ops:List OpM}{o:OpM}(h2:¬ o.kind.toNat=2)(h3:¬ o.kind.toNat=3)(h4:¬ o.kind.toNat=4):kindsR id ops o=true:=by
 unfold kindsR;rw [if_neg,if_neg]
 ·
  intro e;exact h4 ((u8_nat _ 4 (by omega)).1 e)
 ·
  rintro(e|e)
  ·
   exact h2 ((u8_nat _ 2 (by omega)).1 e)
  ·
   exact h3 ((u8_nat _ 3 (by omega)).1 e)
theorem later_a{id:PidM}{v:VidM}(h1:v.pid.author=id.author)(h2:id.seq.toNat<v.pid.seq.toNat):laterOne id v=true:=by unfold laterOne;simp [h1,h2]
theorem later_b{id:PidM}{v:VidM}(h2:¬ id.seq.toNat<v.pid.seq.toNat):laterOne id v=false:=by unfold laterOne;simp [h2]
theorem later_c{id:PidM}{v:VidM}(h1:¬ v.pid.author=id.author):laterOne id v=false:=by unfold laterOne;simp [h1]
theorem own_get{id:PidM}{ops:List OpM}{v:VidM}{k:UInt8}(h:v.pid=id)(ho:ownM id ops v k=true):∃ o,ops[v.n.toNat]? = some o:=by
 by_cases hn:v.n.toNat<ops.length
 ·
  exact get_op hn
 ·
  rw [own_out h hn] at ho;cases ho
attribute [local irreducible] refsM opGood laterB oneR kindsR ownM laterOne
set_option maxHeartbeats 20000000 in
set_option maxRecDepth 100000 in
theorem rone_any(id:PidM)(dv ov:Value)(ops:List OpM)(i:Nat)(o:OpM)(w:World)(hv:GRow encOp 8 w ov ops)(ho:ops[i]? = some o)(hl:ops.length≤40000)(hz:o.text.size≤maxLen) :
  Calls Tryz.prog 168 #[patV id dv ov,.int .i64 i] w fun e w'=>e=.returned (.bool (oneR id ops i o))∧Below w.heap.size w w':=by
 have HV0:=Lh hv
 have HZ:=Lh hz
 have hlt:=(List.getElem?_eq_some_iff.1 ho).1
 obtain⟨a,cap,rfl,h1,h2,hc⟩:=hv.at encOp_len
 unfold maxLen at h2
 have HC:=Lh hc
 have HP:=Lh (anw w #[.int .u8 id.author.toNat,.int .u16 id.seq.toNat,dv,.slice a ops.length cap] 61)
 have HB:=Lh (bnew (w:=w) (.cells #[.int .u8 id.author.toNat,.int .u16 id.seq.toNat,dv,.slice a ops.length cap] 61))
 have gp:=fun p q xs ys w=>guard_pid .neq p q xs ys w
 have gv:=fun p q xs ys w=>guard_vid .eql p q xs ys w
 have go':=fun p q xs ys w=>guard_op .eql p q xs ys w
 have hrl:=refs_len o
 have HOo:=Lh ho
 clear hv hc hz ho
 unfold patV
 go_enter Tryz.func168,Tryz.ntmps168
 go_upto_region 1 with(fail)
 generalize hw0:w.alloc (.cells #[.int .u8 id.author.toNat,.int .u16 id.seq.toNat,dv,.slice a ops.length cap] 61)=w0 at *
 clear hw0
 obtain⟨b,off,rfl,sb,hcb⟩:=HC.out.resolve_left (by omega)
 have HCb:=Lh hcb
 have HCo:=Lh (hcb i o HOo.out w0 HB.out)
 clear hcb
 have p0:=HP.out.k 0 rfl
 have p1:=HP.out.k 1 rfl
 have p2:=HP.out.k 2 rfl
 have p3:=HP.out.k 3 rfl
 have sp:=HP.out.lt
 have o0:w0.cell? ⟨b,off+i*8,none⟩=some (.int .u8 o.kind.toNat):=HCo.out.2 0 _ rfl
 have o1:w0.cell? ⟨b,off+i*8+1,none⟩=some (.int .u8 o.at'.pid.author.toNat):=HCo.out.2 1 _ rfl
 have o2:w0.cell? ⟨b,off+i*8+2,none⟩=some (.int .u16 o.at'.pid.seq.toNat):=HCo.out.2 2 _ rfl
 have o3:w0.cell? ⟨b,off+i*8+3,none⟩=some (.int .u8 o.at'.n.toNat):=HCo.out.2 3 _ rfl
 have o4:w0.cell? ⟨b,off+i*8+4,none⟩=some (.int .u8 o.to.pid.author.toNat):=HCo.out.2 4 _ rfl
 have o5:w0.cell? ⟨b,off+i*8+5,none⟩=some (.int .u16 o.to.pid.seq.toNat):=HCo.out.2 5 _ rfl
 have o6:w0.cell? ⟨b,off+i*8+6,none⟩=some (.int .u8 o.to.n.toNat):=HCo.out.2 6 _ rfl
 have o7:w0.cell? ⟨b,off+i*8+7,none⟩=some (.string o.text):=HCo.out.2 7 _ rfl
 have so:=HCo.out.1
 have HO:Hid (Arr (w0.alloc (.cells #[.int .u8 o.kind.toNat,.int .u8 o.at'.pid.author.toNat,.int .u16 o.at'.pid.seq.toNat,.int .u8 o.at'.n.toNat,.int .u8 o.to.pid.author.toNat,.int .u16 o.to.pid.seq.toNat,.int .u8 o.to.n.toNat,.string o.text] 58)) w0.heap.size [.int .u8 o.kind.toNat,.int .u8 o.at'.pid.author.toNat,.int .u16 o.at'.pid.seq.toNat,.int .u8 o.at'.n.toNat,.int .u8 o.to.pid.author.toNat,.int .u16 o.to.pid.seq.toNat,.int .u8 o.to.n.toNat,.string o.text]):=anw _ _ _
 have HB1:Hid (Below w0.heap.size w0 (w0.alloc (.cells #[.int .u8 o.kind.toNat,.int .u8 o.at'.pid.author.toNat,.int .u16 o.at'.pid.seq.toNat,.int .u8 o.at'.n.toNat,.int .u8 o.to.pid.author.toNat,.int .u16 o.to.pid.seq.toNat,.int .u8 o.to.n.toNat,.string o.text] 58))):=bnew _
 go_upto_region 2 with(fail)
 generalize hw1:w0.alloc (.cells #[.int .u8 o.kind.toNat,.int .u8 o.at'.pid.author.toNat,.int .u16 o.at'.pid.seq.toNat,.int .u8 o.at'.n.toNat,.int .u8 o.to.pid.author.toNat,.int .u16 o.to.pid.seq.toNat,.int .u8 o.to.n.toNat,.string o.text] 58)=w1 at *
 clear hw1
 clear o0 o1 o2 o3 o4 o5 o6 o7 so p0 p1 p2 p3 sp
 have HP1:=Lh (HP.out.over HB1.out)
 have HBw1:=Lh (bov HB.out HB.out.size HB1.out)
 have o0:=HO.out.k 0 rfl
 have o1:=HO.out.k 1 rfl
 have o2:=HO.out.k 2 rfl
 have o3:=HO.out.k 3 rfl
 have o4:=HO.out.k 4 rfl
 have o5:=HO.out.k 5 rfl
 have o6:=HO.out.k 6 rfl
 have o7:=HO.out.k 7 rfl
 have so:=HO.out.lt
 have p0:=HP1.out.k 0 rfl
 have p1:=HP1.out.k 1 rfl
 have p2:=HP1.out.k 2 rfl
 have p3:=HP1.out.k 3 rfl
 have sp:=HP1.out.lt
 go_wp2_with fail
 refine(rogood_any id i o _ (by omega) HZ.out).mono ?_
 rintro e w2 ⟨rfl,hb2⟩
 have HB2:=Lh hb2
 have HO2:=Lh (HO.out.over hb2)
 have HP2:=Lh (HP1.out.over hb2)
 have HBw2:=Lh (bov HBw1.out HBw1.out.size hb2)
 clear hb2
 clear o0 o1 o2 o3 o4 o5 o6 o7 so p0 p1 p2 p3 sp
 cases hg:opGood id i o with
 | false =>
  have HN:=Lh (oneR_a (ops:=ops) hg)
  clear hg
  go_wp2_with fail
  go_ret
  exact⟨rvl (congrArg Value.bool HN.out.symm),HBw2.out⟩
 | true =>
  have HG:=Lh hg
  clear hg
  have o0:=HO2.out.k 0 rfl
  have o1:=HO2.out.k 1 rfl
  have o2:=HO2.out.k 2 rfl
  have o3:=HO2.out.k 3 rfl
  have o4:=HO2.out.k 4 rfl
  have o5:=HO2.out.k 5 rfl
  have o6:=HO2.out.k 6 rfl
  have o7:=HO2.out.k 7 rfl
  have so:=HO2.out.lt
  go_wp2_with fail
  refine(rrefs_any o _).mono ?_
  rintro e w3 ⟨v3,rfl,hv3,hb3⟩
  obtain⟨a3,cap3,rfl,q1,q2,hc3⟩:=(GRow.at encVid_len (RefsAt.vrow hv3))
  unfold maxLen at q2
  have HC3:=Lh hc3
  have HO3:=Lh (HO2.out.over hb3)
  have HP3:=Lh (HP2.out.over hb3)
  have HBw3:=Lh (bov HBw2.out HBw2.out.size hb3)
  clear hb3 hv3 hc3 o0 o1 o2 o3 o4 o5 o6 o7 so
  go_wp2_with fail
  go_loopw [7] (fun v7 wr=>∃ k:Nat,k≤(refsM o).length∧v7=.int .i64 k∧Hid (((refsM o).take k).any (laterOne id)=false)∧Below w3.heap.size w3 wr) (fun v7 _=>(refsM o).length - (intOf v7).toNat)
  case atStart=>exact⟨0,by omega,rfl,(by show _=_;simp),Below.refl _ _⟩
  case round =>
   obtain⟨k,hk,rfl,HK,hbl⟩:=hrel
   have HBr:=Lh (bov HBw3.out HBw3.out.size hbl)
   have HPr:=Lh (HP3.out.over hbl)
   by_cases hlt2:k<(refsM o).length
   ·
    obtain⟨b3,off3,rfl,sb3,hcb⟩:=HC3.out.resolve_left (by omega)
    obtain⟨v,hv⟩:=gol hlt2
    have HVd:=Lh (hcb k v hv wr hbl)
    have v0:wr.cell? ⟨b3,off3+k*3,none⟩=some (.int .u8 v.pid.author.toNat):=(HVd.out).2 0 _ rfl
    have v1:wr.cell? ⟨b3,off3+k*3+1,none⟩=some (.int .u16 v.pid.seq.toNat):=(HVd.out).2 1 _ rfl
    have sv:=HVd.out.1
    have HX:=Lh hv
    clear hcb hv
    have p0:=HPr.out.k 0 rfl
    have p1:=HPr.out.k 1 rfl
    have sp:=HPr.out.lt
    by_cases g1:v.pid.author=id.author
    ·
     have d1:((v.pid.author.toNat:Int) == (id.author.toNat:Int))=true:=by simp [g1]
     by_cases g2:id.seq.toNat<v.pid.seq.toNat
     ·
      have d2:decide (id.seq.toNat<v.pid.seq.toNat)=true:=by simpa using g2
      have HN:=Lh (oneR_b (i:=i) (ops:=ops) HX.out (later_a g1 g2))
      clear g1 g2
      go_wp2_with fail
      have hcur:Below wr.heap.size wr wr.drew:=(Below.refl _ _).drew
      refine wlex (C:=IsOver wr) 22 [] (by kernel_rfl) (by kernel_rfl) (iov hcur) ?_
      simp only [Tsc,Tz,Dsc,Dz]
      repeat(first|(refine lxs rfl rfl ?_;simp only [Act.put,Sib,Scs,Scz])|(refine lxo rfl ?_;go_big_quiet_step (fail);refine wpQuiet_nil ?_))
      refine lxe ?_
      clear hcur
      go_wp2_with fail
      go_ret
      exact⟨rvl (congrArg Value.bool HN.out.symm),HBr.out.drew⟩
     ·
      have d2:decide (id.seq.toNat<v.pid.seq.toNat)=false:=by simpa using g2
      have HN:=Lh (any_step HK.out HX.out (later_b g2))
      clear g1 g2
      go_wp2_with fail
      have hcur:Below wr.heap.size wr wr.drew:=(Below.refl _ _).drew
      refine wlex (C:=IsOver wr) 22 [] (by kernel_rfl) (by kernel_rfl) (iov hcur) ?_
      simp only [Tsc,Tz,Dsc,Dz]
      repeat(first|(refine lxs rfl rfl ?_;simp only [Act.put,Sib,Scs,Scz])|(refine lxo rfl ?_;go_big_quiet_step (fail);refine wpQuiet_nil ?_))
      refine lxe ?_
      clear hcur
      go_wp2_with fail
      go_roundw
      case rel=>exact⟨k+1,hlt2,by go_num,HN,hbl.drew⟩
      case measure=>simp [intOf];omega
    ·
     have d1:((v.pid.author.toNat:Int) == (id.author.toNat:Int))=false:=by
      simp;intro h;exact g1 (UInt8.toNat_inj.1 (by omega))
     have HN:=Lh (any_step HK.out HX.out (later_c g1))
     clear g1
     go_wp2_with fail
     have hcur:Below wr.heap.size wr wr.drew:=(Below.refl _ _).drew
     refine wlex (C:=IsOver wr) 22 [] (by kernel_rfl) (by kernel_rfl) (iov hcur) ?_
     simp only [Tsc,Tz,Dsc,Dz]
     repeat(first|(refine lxs rfl rfl ?_;simp only [Act.put,Sib,Scs,Scz])|(refine lxo rfl ?_;go_big_quiet_step (fail);refine wpQuiet_nil ?_))
     refine lxe ?_
     clear hcur
     go_wp2_with fail
     go_roundw
     case rel=>exact⟨k+1,hlt2,by go_num,HN,hbl.drew⟩
     case measure=>simp [intOf];omega
   ·
    obtain rfl:k=(refsM o).length:=by omega
    have HL:=Lh HK.out
    have HO4:=Lh (HO3.out.over hbl)
    rename World=>w4
    clear HK hbl
    go_wp2_with fail
    go_loopw [8] (fun v8 wr=>∃ k:Nat,k≤i∧v8=.int .i64 k∧Hid (4≤o.kind.toNat→∀ j,j<k→ops[j]? ≠ some o)∧Below w4.heap.size w4 wr) (fun v8 _=>i - (intOf v8).toNat)
    case atStart=>exact⟨0,by omega,rfl,fun _ j hj=>absurd hj (Nat.not_lt_zero _),Below.refl _ _⟩
    case round =>
     obtain⟨k,hk,rfl,HK,hbl⟩:=hrel
     have HB5:=Lh (bov HBr.out HBr.out.size hbl)
     have HO5:=Lh (HO4.out.over hbl)
     have HP5:=Lh (HPr.out.over hbl)
     have o0:=HO5.out.k 0 rfl
     have o1:=HO5.out.k 1 rfl
     have o2:=HO5.out.k 2 rfl
     have o3:=HO5.out.k 3 rfl
     have o4:=HO5.out.k 4 rfl
     have o5:=HO5.out.k 5 rfl
     have o6:=HO5.out.k 6 rfl
     have o7:=HO5.out.k 7 rfl
     have so:=HO5.out.lt
     have p0:=HP5.out.k 0 rfl
     have p1:=HP5.out.k 1 rfl
     have p2:=HP5.out.k 2 rfl
     have p3:=HP5.out.k 3 rfl
     have sp:=HP5.out.lt
     by_cases hlt3:k<i
     ·
      by_cases h4:4≤o.kind.toNat
      ·
       have d4:decide ((4:Int)≤(o.kind.toNat:Int))=true:=by simp;omega
       obtain⟨x,hx⟩:=gol (show k<ops.length by omega)
       have HXa:=Lh (HCb.out k x hx wr HB5.out)
       have x0:wr.cell? ⟨b,off+k*8,none⟩=some (.int .u8 x.kind.toNat):=HXa.out.2 0 _ rfl
       have x1:wr.cell? ⟨b,off+k*8+1,none⟩=some (.int .u8 x.at'.pid.author.toNat):=HXa.out.2 1 _ rfl
       have x2:wr.cell? ⟨b,off+k*8+2,none⟩=some (.int .u16 x.at'.pid.seq.toNat):=HXa.out.2 2 _ rfl
       have x3:wr.cell? ⟨b,off+k*8+3,none⟩=some (.int .u8 x.at'.n.toNat):=HXa.out.2 3 _ rfl
       have x4:wr.cell? ⟨b,off+k*8+4,none⟩=some (.int .u8 x.to.pid.author.toNat):=HXa.out.2 4 _ rfl
       have x5:wr.cell? ⟨b,off+k*8+5,none⟩=some (.int .u16 x.to.pid.seq.toNat):=HXa.out.2 5 _ rfl
       have x6:wr.cell? ⟨b,off+k*8+6,none⟩=some (.int .u8 x.to.n.toNat):=HXa.out.2 6 _ rfl
       have x7:wr.cell? ⟨b,off+k*8+7,none⟩=some (.string x.text):=HXa.out.2 7 _ rfl
       have sx:=HXa.out.1
       by_cases hxo:x=o
       ·
        have e6:=eql_op x o true (by simp [hxo])
        unfold opV at e6
        have HN:=Lh (oneR_c (id:=id) h4 hlt3 (hxo▸hx))
        clear h4 hx hxo
        go_wp2_with fail
        have hcur:Below wr.heap.size wr wr.drew:=(Below.refl _ _).drew
        refine wlex (C:=IsOver wr) 12 [] (by kernel_rfl) (by kernel_rfl) (iov hcur) ?_
        simp only [Tsc,Tz,Dsc,Dz]
        repeat(first|(refine lxs rfl rfl ?_;simp only [Act.put,Sib,Scs,Scz])|(refine lxo rfl ?_;go_big_quiet_step (fail);refine wpQuiet_nil ?_))
        refine lxe ?_
        clear hcur
        go_wp2_with fail
        go_ret
        exact⟨rvl (congrArg Value.bool HN.out.symm),HB5.out.drew⟩
       ·
        have e6:=eql_op x o false (by simp [hxo])
        unfold opV at e6
        have HN:Hid (4≤o.kind.toNat→∀ j,j<k+1→ops[j]? ≠ some o):=fun h4 j hj e=>by
         by_cases hjk:j=k
         ·
          subst hjk;rw [hx] at e;exact hxo (Option.some.inj e)
         ·
          exact HK.out h4 j (by omega) e
        clear h4 hx hxo
        go_wp2_with fail
        have hcur:Below wr.heap.size wr wr.drew:=(Below.refl _ _).drew
        refine wlex (C:=IsOver wr) 12 [] (by kernel_rfl) (by kernel_rfl) (iov hcur) ?_
        simp only [Tsc,Tz,Dsc,Dz]
        repeat(first|(refine lxs rfl rfl ?_;simp only [Act.put,Sib,Scs,Scz])|(refine lxo rfl ?_;go_big_quiet_step (fail);refine wpQuiet_nil ?_))
        refine lxe ?_
        clear hcur
        go_wp2_with fail
        go_roundw
        case rel=>exact⟨k+1,hlt3,by go_num,HN,hbl.drew⟩
        case measure=>simp [intOf];omega
      ·
       have d4:decide ((4:Int)≤(o.kind.toNat:Int))=false:=by simp;omega
       have HN:Hid (4≤o.kind.toNat→∀ j,j<k+1→ops[j]? ≠ some o):=fun h=>absurd h h4
       clear h4
       go_wp2_with fail
       have hcur:Below wr.heap.size wr wr.drew:=(Below.refl _ _).drew
       refine wlex (C:=IsOver wr) 12 [] (by kernel_rfl) (by kernel_rfl) (iov hcur) ?_
       simp only [Tsc,Tz,Dsc,Dz]
       repeat(first|(refine lxs rfl rfl ?_;simp only [Act.put,Sib,Scs,Scz])|(refine lxo rfl ?_;go_big_quiet_step (fail);refine wpQuiet_nil ?_))
       refine lxe ?_
       clear hcur
       go_wp2_with fail
       go_roundw
       case rel=>exact⟨k+1,hlt3,by go_num,HN,hbl.drew⟩
       case measure=>simp [intOf];omega
     ·
      obtain rfl:k=i:=by omega
      have HE:=Lh (oneR_d HG.out HL.out HK.out)
      have HV5:=Lh (HV0.out.over HB5.out)
      clear HK HL
      by_cases h2:o.kind.toNat=2
      ·
       have d2:((o.kind.toNat:Int) == 2)=true:=by simp;omega
       have HK2:=Lh (kindsR_2 (id:=id) (ops:=ops) (.inl h2))
       clear h2
       go_wp2_with fail
       refine(rown_any id dv _ ops o.at' 1 _ HV5.out).mono ?_
       rintro e w6 ⟨rfl,hb6⟩
       have HB6:=Lh (bov HB5.out HB5.out.size hb6)
       clear hb6
       rw [← HK2.out,← HE.out]
       go_wp2_with fail
       go_ret
       exact⟨rfl,HB6.out⟩
      ·
       have d2:((o.kind.toNat:Int) == 2)=false:=by simp;omega
       by_cases h3:o.kind.toNat=3
       ·
        have d3:((o.kind.toNat:Int) == 3)=true:=by simp;omega
        have HK2:=Lh (kindsR_2 (id:=id) (ops:=ops) (.inr h3))
        clear h2 h3
        go_wp2_with fail
        refine(rown_any id dv _ ops o.at' 1 _ HV5.out).mono ?_
        rintro e w6 ⟨rfl,hb6⟩
        have HB6:=Lh (bov HB5.out HB5.out.size hb6)
        clear hb6
        rw [← HK2.out,← HE.out]
        go_wp2_with fail
        go_ret
        exact⟨rfl,HB6.out⟩
       ·
        have d3:((o.kind.toNat:Int) == 3)=false:=by simp;omega
        by_cases h4:o.kind.toNat=4
        ·
         have d4:((o.kind.toNat:Int) == 4)=true:=by simp;omega
         have HK4:=Lh (HE.out.trans (kindsR_4 (id:=id) (ops:=ops) h4))
         clear h2 h3 h4
         go_wp2_with fail
         refine(rown_any id dv _ ops o.at' 3 _ HV5.out).mono ?_
         rintro e w6 ⟨rfl,hb6⟩
         have HB6:=Lh (bov HB5.out HB5.out.size hb6)
         have HO6:=Lh (HO5.out.over hb6)
         have HP6:=Lh (HP5.out.over hb6)
         clear hb6
         clear o0 o1 o2 o3 o4 o5 o6 o7 so p0 p1 p2 p3 sp
         cases ha:ownM id ops o.at' 3 with
         | false =>
          have HN:Hid (oneR id ops k o=false):=by show _=_;rw [HK4.out,ha];rfl
          clear ha
          go_wp2_with fail
          go_ret
          exact⟨rvl (congrArg Value.bool HN.out.symm),HB6.out⟩
         | true =>
          have HA:=Lh ha
          clear ha
          have o0:=HO6.out.k 0 rfl
          have o1:=HO6.out.k 1 rfl
          have o2:=HO6.out.k 2 rfl
          have o3:=HO6.out.k 3 rfl
          have o4:=HO6.out.k 4 rfl
          have o5:=HO6.out.k 5 rfl
          have o6:=HO6.out.k 6 rfl
          have o7:=HO6.out.k 7 rfl
          have so:=HO6.out.lt
          have p0:=HP6.out.k 0 rfl
          have p1:=HP6.out.k 1 rfl
          have p2:=HP6.out.k 2 rfl
          have p3:=HP6.out.k 3 rfl
          have sp:=HP6.out.lt
          go_wp2_with fail
          refine(rown_any id dv _ ops o.to 3 _ (HV0.out.over HB6.out)).mono ?_
          rintro e w7 ⟨rfl,hb7⟩
          have HB7:=Lh (bov HB6.out HB6.out.size hb7)
          have HO7:=Lh (HO6.out.over hb7)
          have HP7:=Lh (HP6.out.over hb7)
          clear hb7
          clear o0 o1 o2 o3 o4 o5 o6 o7 so p0 p1 p2 p3 sp
          cases ht:ownM id ops o.to 3 with
          | false =>
           have HN:Hid (oneR id ops k o=false):=by show _=_;rw [HK4.out,HA.out,ht];rfl
           clear ht
           go_wp2_with fail
           go_ret
           exact⟨rvl (congrArg Value.bool HN.out.symm),HB7.out⟩
          | true =>
           have HT:=Lh ht
           clear ht
           have o0:=HO7.out.k 0 rfl
           have o1:=HO7.out.k 1 rfl
           have o2:=HO7.out.k 2 rfl
           have o3:=HO7.out.k 3 rfl
           have o4:=HO7.out.k 4 rfl
           have o5:=HO7.out.k 5 rfl
           have o6:=HO7.out.k 6 rfl
           have o7:=HO7.out.k 7 rfl
           have so:=HO7.out.lt
           have p0:=HP7.out.k 0 rfl
           have p1:=HP7.out.k 1 rfl
           have p2:=HP7.out.k 2 rfl
           have p3:=HP7.out.k 3 rfl
           have sp:=HP7.out.lt
           by_cases g1:o.at'.pid=id
           ·
            have e1:=neq_pid o.at'.pid id false (by simp [g1])
            unfold pidV at e1
            by_cases g2:o.to.pid=id
            ·
             have e2:=neq_pid o.to.pid id false (by simp [g2])
             unfold pidV at e2
             obtain⟨x,hx⟩:=own_get g1 HA.out
             obtain⟨y,hy⟩:=own_get g2 HT.out
             have hxl:=(List.getElem?_eq_some_iff.1 hx).1
             have hyl:=(List.getElem?_eq_some_iff.1 hy).1
             have HXa:=Lh (HCb.out _ x hx w7 HB7.out)
             have HYa:=Lh (HCb.out _ y hy w7 HB7.out)
             have HN:Hid (oneR id ops k o=decide (x.at'=y.at')):=by show _=_;rw [HK4.out,HA.out,HT.out,hx,hy];simp [g1,g2]
             have x1:w7.cell? ⟨b,off+o.at'.n.toNat*8+1,none⟩=some (.int .u8 x.at'.pid.author.toNat):=HXa.out.2 1 _ rfl
             have x2:w7.cell? ⟨b,off+o.at'.n.toNat*8+2,none⟩=some (.int .u16 x.at'.pid.seq.toNat):=HXa.out.2 2 _ rfl
             have x3:w7.cell? ⟨b,off+o.at'.n.toNat*8+3,none⟩=some (.int .u8 x.at'.n.toNat):=HXa.out.2 3 _ rfl
             have y1:w7.cell? ⟨b,off+o.to.n.toNat*8+1,none⟩=some (.int .u8 y.at'.pid.author.toNat):=HYa.out.2 1 _ rfl
             have y2:w7.cell? ⟨b,off+o.to.n.toNat*8+2,none⟩=some (.int .u16 y.at'.pid.seq.toNat):=HYa.out.2 2 _ rfl
             have y3:w7.cell? ⟨b,off+o.to.n.toNat*8+3,none⟩=some (.int .u8 y.at'.n.toNat):=HYa.out.2 3 _ rfl
             have sxy:=HXa.out.1
             have e4:=eql_vid x.at' y.at' _ rfl
             unfold vidV at e4
             generalize decide (x.at'=y.at')=q at *
             have hna:=o.at'.n.toNat_lt
             have hnb:=o.to.n.toNat_lt
             clear g1 g2 hx hy
             go_wp2_with fail
             have hcur:Below w7.heap.size w7 w7.drew:=(Below.refl _ _).drew
             refine wlex (C:=IsOver w7) 35 [] (by kernel_rfl) (by kernel_rfl) (iov hcur) ?_
             simp only [Tsc,Tz,Dsc,Dz]
             repeat(first|(refine lxs rfl rfl ?_;simp only [Act.put,Sib,Scs,Scz])|(refine lxo rfl ?_;go_big_quiet_step (fail);refine wpQuiet_nil ?_))
             refine lxe ?_
             clear hcur
             go_wp2_with fail
             go_ret
             exact⟨rvl (congrArg Value.bool HN.out.symm),HB7.out.drew⟩
            ·
             have e2:=neq_pid o.to.pid id true (by simp [g2])
             unfold pidV at e2
             have HN:Hid (oneR id ops k o=true):=by show _=_;rw [HK4.out,HA.out,HT.out];simp [g2]
             clear g1 g2
             go_wp2_with fail
             have hcur:Below w7.heap.size w7 w7.drew:=(Below.refl _ _).drew
             refine wlex (C:=IsOver w7) 35 [] (by kernel_rfl) (by kernel_rfl) (iov hcur) ?_
             simp only [Tsc,Tz,Dsc,Dz]
             repeat(first|(refine lxs rfl rfl ?_;simp only [Act.put,Sib,Scs,Scz])|(refine lxo rfl ?_;go_big_quiet_step (fail);refine wpQuiet_nil ?_))
             refine lxe ?_
             clear hcur
             go_wp2_with fail
             go_ret
             exact⟨rvl (congrArg Value.bool HN.out.symm),HB7.out.drew⟩
           ·
            have e1:=neq_pid o.at'.pid id true (by simp [g1])
            unfold pidV at e1
            have HN:Hid (oneR id ops k o=true):=by show _=_;rw [HK4.out,HA.out,HT.out];simp [g1]
            clear g1
            go_wp2_with fail
            have hcur:Below w7.heap.size w7 w7.drew:=(Below.refl _ _).drew
            refine wlex (C:=IsOver w7) 35 [] (by kernel_rfl) (by kernel_rfl) (iov hcur) ?_
            simp only [Tsc,Tz,Dsc,Dz]
            repeat(first|(refine lxs rfl rfl ?_;simp only [Act.put,Sib,Scs,Scz])|(refine lxo rfl ?_;go_big_quiet_step (fail);refine wpQuiet_nil ?_))
            refine lxe ?_
            clear hcur
            go_wp2_with fail
            go_ret
            exact⟨rvl (congrArg Value.bool HN.out.symm),HB7.out.drew⟩
        ·
         have d4:((o.kind.toNat:Int) == 4)=false:=by simp;omega
         have HK1:=Lh (HE.out.trans (kindsR_1 (id:=id) (ops:=ops) h2 h3 h4))
         clear h2 h3 h4
         go_wp2_with fail
         go_ret
         exact⟨rvl (congrArg Value.bool HK1.out.symm),HB5.out⟩
end Go.Proofs.YtllcipobiengiaaGreat
namespace Go.Proofs.YtllcipobiengiaaGreat
open Go Go.RowKit

def loopR(id:PidM)(ops:List OpM):Bool:=(List.range ops.length).all fun i=>match ops[i]? with|some o=>oneR id ops i o|none=>false
def goodR(id:PidM)(deps:List PidM)(ops:List OpM):Bool:=goodPid id && (decide (1≤ops.length) && (decide (ops.length≤200) && (decide (deps=depsM id ops) && loopR id ops)))
theorem loopR_no{id:PidM}{ops:List OpM}{i:Nat}{o:OpM}(ho:ops[i]? = some o)(h:oneR id ops i o=false):loopR id ops=false:=by
 unfold loopR
 refine List.all_eq_false.2 ⟨i,List.mem_range.2 (List.getElem?_eq_some_iff.1 ho).1,?_⟩
 rw [ho];simp [h]
theorem loopR_yes{id:PidM}{ops:List OpM}(h:∀ i o,ops[i]? = some o→oneR id ops i o=true):loopR id ops=true:=by
 unfold loopR
 refine List.all_eq_true.2 fun i hi => ?_
 obtain⟨o,ho⟩:=gol (List.mem_range.1 hi)
 rw [ho];exact h i o ho
theorem rg_next{id:PidM}{ops:List OpM}{i:Nat}{o:OpM}(h:∀ j o,j<i→ops[j]? = some o→oneR id ops j o=true)(ho:ops[i]? = some o)(hn:oneR id ops i o=true):∀ j o,j<i+1→ops[j]? = some o→oneR id ops j o=true:=by
 intro j o' hj hj'
 by_cases e:j=i
 ·
  subst e;rw [ho] at hj';cases hj';exact hn
 ·
  exact h j o' (by omega) hj'
theorem goodR_a{id:PidM}{deps:List PidM}{ops:List OpM}(h:goodPid id=false):goodR id deps ops=false:=by unfold goodR;rw [h];rfl
theorem goodR_b{id:PidM}{deps:List PidM}{ops:List OpM}(h:¬ 1≤ops.length):goodR id deps ops=false:=by unfold goodR;simp;omega
theorem goodR_c{id:PidM}{deps:List PidM}{ops:List OpM}(h:¬ ops.length≤200):goodR id deps ops=false:=by unfold goodR;simp;omega
theorem goodR_d{id:PidM}{deps:List PidM}{ops:List OpM}(h:¬ deps=depsM id ops):goodR id deps ops=false:=by unfold goodR;simp [h]
theorem goodR_e{id:PidM}{deps:List PidM}{ops:List OpM}(h1:goodPid id=true)(h2:1≤ops.length)(h3:ops.length≤200)(h4:deps=depsM id ops):goodR id deps ops=loopR id ops:=by unfold goodR;rw [h1];simp [h2,h3,h4]
theorem goodR_eq(p:PatchM):goodR p.id p.deps p.ops=goodP p:=rfl
attribute [local irreducible] refsM opGood laterB oneR loopR goodR goodPid depsM
set_option maxHeartbeats 10000000 in
set_option maxRecDepth 100000 in
theorem rgood_any(id:PidM)(dv ov:Value)(deps:List PidM)(ops:List OpM)(w:World)(hd:GRow encPid 2 w dv deps)(hv:GRow encOp 8 w ov ops)(hl:ops.length≤40000)(hz:∀ o∈ops,o.text.size≤maxLen) :
  Calls Tryz.prog 126 #[patV id dv ov] w fun e w'=>e=.returned (.bool (goodR id deps ops))∧Below w.heap.size w w':=by
 have HV0:=Lh hv
 have HD0:=Lh hd
 have HZ:=Lh hz
 obtain⟨a,cap,rfl,h1,h2,hc⟩:=hv.at encOp_len
 obtain⟨ad,capd,rfl,h1d,h2d,_⟩:=hd.at encPid_len
 unfold maxLen at h2 h2d
 have HC:=Lh hc
 have HP:=Lh (anw w #[.int .u8 id.author.toNat,.int .u16 id.seq.toNat,.slice ad deps.length capd,.slice a ops.length cap] 61)
 have HB:=Lh (bnew (w:=w) (.cells #[.int .u8 id.author.toNat,.int .u16 id.seq.toNat,.slice ad deps.length capd,.slice a ops.length cap] 61))
 clear hv hd hc hz
 unfold patV
 go_enter Tryz.func126,Tryz.ntmps126
 go_upto_region 1 with(fail)
 generalize hw0:w.alloc (.cells #[.int .u8 id.author.toNat,.int .u16 id.seq.toNat,.slice ad deps.length capd,.slice a ops.length cap] 61)=w0 at *
 clear hw0
 have HV:=Lh (HV0.out.over HB.out)
 have HD:=Lh (HD0.out.over HB.out)
 have p0:=HP.out.k 0 rfl
 have p1:=HP.out.k 1 rfl
 have p2:=HP.out.k 2 rfl
 have p3:=HP.out.k 3 rfl
 have sp:=HP.out.lt
 cases hg:goodPid id with
 | false =>
  have HQ:=Lh (goodR_a (deps:=deps) (ops:=ops) hg)
  have HG:=Lh hg
  clear hg
  have hcur:Below w0.heap.size w0 w0.drew:=(Below.refl _ _).drew
  refine wlex (C:=IsOver w0) 27 [] (by kernel_rfl) (by kernel_rfl) (iov hcur) ?_
  simp only [Tsc,Tz,Dsc,Dz]
  repeat(first|(refine lxs rfl rfl ?_;simp only [Act.put,Sib,Scs,Scz])|(refine lxo rfl ?_;go_big_quiet_step (fail);refine wpQuiet_nil ?_)|(refine lxl rfl ?_;go_wp2_with (first|(go_at_call 165;(with_reducible refine(rgoodPid_any id _).mono ?_);rintro e w' ⟨rfl,hb⟩;rw [HG.out];replace hcur:=bov hcur hcur.size hb;clear hb));refine⟨iov hcur,?_⟩))
  refine lxe ?_
  have HB3:=Lh (bov HB.out HB.out.size hcur)
  clear hcur
  go_wp2_with fail
  go_ret
  exact⟨rvl (congrArg Value.bool HQ.out.symm),HB3.out⟩
 | true =>
  have HG:=Lh hg
  clear hg
  by_cases g1:1≤ops.length
  ·
   have d1:decide ((ops.length:Int)<1)=false:=by simp;omega
   by_cases g2:ops.length≤200
   ·
    have d2:decide ((200:Int)<(ops.length:Int))=false:=by simp;omega
    by_cases g3:deps=depsM id ops
    ·
     have HE:Hid (decide (deps=depsM id ops)=true):=by show _=_;simp [g3]
     have HQ:=Lh (goodR_e HG.out g1 g2 g3)
     clear g3
     have hcur:Below w0.heap.size w0 w0.drew:=(Below.refl _ _).drew
     refine wlex (C:=IsOver w0) 27 [] (by kernel_rfl) (by kernel_rfl) (iov hcur) ?_
     simp only [Tsc,Tz,Dsc,Dz]
     repeat(first|(refine lxs rfl rfl ?_;simp only [Act.put,Sib,Scs,Scz])|(refine lxo rfl ?_;go_big_quiet_step (fail);refine wpQuiet_nil ?_)|(refine lxl rfl ?_;go_wp2_with (first|(go_at_call 165;(with_reducible refine(rgoodPid_any id _).mono ?_);rintro e w' ⟨rfl,hb⟩;rw [HG.out];replace hcur:=bov hcur hcur.size hb;clear hb)|(go_at_call 167;(with_reducible refine(rdeps_any id _ ops _ (HV.out.over hcur) hl).mono ?_);rintro e w' ⟨dv2,rfl,hd2,hb⟩;have HD2:=Lh hd2;replace hcur:=bov hcur hcur.size hb;clear hb hd2)|(go_at_call 166;(with_reducible refine(rsamePid_any _ _ deps (depsM id ops) _ (HD.out.over hcur) HD2.out).mono ?_);rintro e wA ⟨rfl,hb⟩;rw [HE.out];replace hcur:=bov hcur hcur.size hb;clear hb));refine⟨iov hcur,?_⟩))
     refine lxe ?_
     have HA0:=Lh hcur
     clear hcur p0 p1 p2 p3 sp
     go_wp2_with fail
     go_loopw [3] (fun v3 wr=>∃ k:Nat,k≤ops.length∧v3=.int .i64 k∧Hid (∀ j o,j<k→ops[j]? = some o→oneR id ops j o=true)∧Below w0.heap.size w0 wr) (fun v3 _=>ops.length - (intOf v3).toNat)
     case atStart=>exact⟨0,by omega,rfl,fun j o hj=>absurd hj (Nat.not_lt_zero _),HA0.out⟩
     case round =>
      obtain⟨k,hk,rfl,HK,hbl⟩:=hrel
      have HPr:=Lh (HP.out.over hbl)
      have HBr:=Lh (bov HB.out HB.out.size hbl)
      have p0:=HPr.out.k 0 rfl
      have p1:=HPr.out.k 1 rfl
      have p2:=HPr.out.k 2 rfl
      have p3:=HPr.out.k 3 rfl
      have sp:=HPr.out.lt
      by_cases hlt:k<ops.length
      ·
       obtain⟨o,ho⟩:=gol hlt
       have HOo:=Lh ho
       have hzo:=HZ.out o (List.mem_of_getElem? ho)
       have HZo:=Lh hzo
       clear ho hzo
       go_wp2_with fail
       refine(rone_any id _ _ ops k o _ (HV.out.over hbl) HOo.out hl HZo.out).mono ?_
       rintro e w3 ⟨rfl,hb3⟩
       have HB3:=Lh (bov hbl hbl.size hb3)
       clear hb3 p0 p1 p2 p3 sp
       cases h1:oneR id ops k o with
       | false =>
        have HN:=Lh (loopR_no HOo.out h1)
        clear h1
        go_wp2_with fail
        go_ret
        exact⟨rvl (congrArg Value.bool (HQ.out.trans HN.out).symm),bov HB.out HB.out.size HB3.out⟩
       | true =>
        have HN:=Lh (rg_next HK.out HOo.out h1)
        clear h1
        go_wp2_with fail
        go_roundw
        case rel=>exact⟨k+1,hlt,by go_num,HN,HB3.out⟩
        case measure=>simp [intOf];omega
      ·
       obtain rfl:k=ops.length:=by omega
       have HN:=Lh (loopR_yes (id:=id) (ops:=ops) fun j o ho=>HK.out j o (List.getElem?_eq_some_iff.1 ho).1 ho)
       go_wp2_with fail
       go_ret
       exact⟨rvl (congrArg Value.bool (HQ.out.trans HN.out).symm),HBr.out⟩
    ·
     have HE:Hid (decide (deps=depsM id ops)=false):=by show _=_;simp [g3]
     have HQ:=Lh (goodR_d (deps:=deps) g3)
     clear g3
     have hcur:Below w0.heap.size w0 w0.drew:=(Below.refl _ _).drew
     refine wlex (C:=IsOver w0) 27 [] (by kernel_rfl) (by kernel_rfl) (iov hcur) ?_
     simp only [Tsc,Tz,Dsc,Dz]
     repeat(first|(refine lxs rfl rfl ?_;simp only [Act.put,Sib,Scs,Scz])|(refine lxo rfl ?_;go_big_quiet_step (fail);refine wpQuiet_nil ?_)|(refine lxl rfl ?_;go_wp2_with (first|(go_at_call 165;(with_reducible refine(rgoodPid_any id _).mono ?_);rintro e w' ⟨rfl,hb⟩;rw [HG.out];replace hcur:=bov hcur hcur.size hb;clear hb)|(go_at_call 167;(with_reducible refine(rdeps_any id _ ops _ (HV.out.over hcur) hl).mono ?_);rintro e w' ⟨dv2,rfl,hd2,hb⟩;have HD2:=Lh hd2;replace hcur:=bov hcur hcur.size hb;clear hb hd2)|(go_at_call 166;(with_reducible refine(rsamePid_any _ _ deps (depsM id ops) _ (HD.out.over hcur) HD2.out).mono ?_);rintro e w' ⟨rfl,hb⟩;rw [HE.out];replace hcur:=bov hcur hcur.size hb;clear hb));refine⟨iov hcur,?_⟩))
     refine lxe ?_
     have HB3:=Lh (bov HB.out HB.out.size hcur)
     clear hcur
     go_wp2_with fail
     go_ret
     exact⟨rvl (congrArg Value.bool HQ.out.symm),HB3.out⟩
   ·
    have d2:decide ((200:Int)<(ops.length:Int))=true:=by simp;omega
    have HQ:=Lh (goodR_c (id:=id) (deps:=deps) g2)
    have hcur:Below w0.heap.size w0 w0.drew:=(Below.refl _ _).drew
    refine wlex (C:=IsOver w0) 27 [] (by kernel_rfl) (by kernel_rfl) (iov hcur) ?_
    simp only [Tsc,Tz,Dsc,Dz]
    repeat(first|(refine lxs rfl rfl ?_;simp only [Act.put,Sib,Scs,Scz])|(refine lxo rfl ?_;go_big_quiet_step (fail);refine wpQuiet_nil ?_)|(refine lxl rfl ?_;go_wp2_with (first|(go_at_call 165;(with_reducible refine(rgoodPid_any id _).mono ?_);rintro e w' ⟨rfl,hb⟩;rw [HG.out];replace hcur:=bov hcur hcur.size hb;clear hb));refine⟨iov hcur,?_⟩))
    refine lxe ?_
    have HB3:=Lh (bov HB.out HB.out.size hcur)
    clear hcur
    go_wp2_with fail
    go_ret
    exact⟨rvl (congrArg Value.bool HQ.out.symm),HB3.out⟩
  ·
   have d1:decide ((ops.length:Int)<1)=true:=by simp;omega
   have HQ:=Lh (goodR_b (id:=id) (deps:=deps) g1)
   have hcur:Below w0.heap.size w0 w0.drew:=(Below.refl _ _).drew
   refine wlex (C:=IsOver w0) 27 [] (by kernel_rfl) (by kernel_rfl) (iov hcur) ?_
   simp only [Tsc,Tz,Dsc,Dz]
   repeat(first|(refine lxs rfl rfl ?_;simp only [Act.put,Sib,Scs,Scz])|(refine lxo rfl ?_;go_big_quiet_step (fail);refine wpQuiet_nil ?_)|(refine lxl rfl ?_;go_wp2_with (first|(go_at_call 165;(with_reducible refine(rgoodPid_any id _).mono ?_);rintro e w' ⟨rfl,hb⟩;rw [HG.out];replace hcur:=bov hcur hcur.size hb;clear hb));refine⟨iov hcur,?_⟩))
   refine lxe ?_
   have HB3:=Lh (bov HB.out HB.out.size hcur)
   clear hcur
   go_wp2_with fail
   go_ret
   exact⟨rvl (congrArg Value.bool HQ.out.symm),HB3.out⟩
end Go.Proofs.YtllcipobiengiaaGreat
