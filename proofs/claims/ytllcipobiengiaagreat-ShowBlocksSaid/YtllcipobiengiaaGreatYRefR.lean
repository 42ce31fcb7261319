/- Contract of ref20.Check. Contracts of ref20.Apply and of the model of patches. -/
import Derived.Test.YtllcipobiengiaaGreatYRefP
set_option linter.unusedVariables false
set_option linter.unusedSimpArgs false
namespace Go.Proofs.YtllcipobiengiaaGreat
open Go Go.RowKit

theorem nextM_F(L:List PatchM)(a:UInt8):nextM L a=nextF (vecM L) a:=rfl
def CkDeps(w2:World)(xs:List LaidP)(deps:List PidM)(v5:Value)(wr:World):Prop:=∃ k:Nat,k≤deps.length∧v5=.int .i64 k∧Hid (((deps.take k).all fun d=>hasM (patsOf xs) d)=true)∧Below w2.heap.size w2 wr
def CkOps(w8:World)(L:List PatchM)(ops:List OpM)(v7:Value)(wr:World):Prop:=∃ k:Nat,k≤ops.length∧v7=.int .i64 k∧Hid (((ops.take k).all fun o=>refMet L o)=true)∧Below w8.heap.size w8 wr
def AllCut(wa:World)(xs:List LaidP)(x:LaidP)(s6:Value)(wx:World):Prop:=∃ g6 v6,s6=.pointer (some ⟨g6,0,none⟩)∧Hid (Arr wx g6 [v6])∧Hid (GRow encPat 4 wx v6 (xs++[x]))∧Hid (Below wa.heap.size wa wx)
theorem opt_none{X:Option VertM}(h:X.isSome=false):X=none:=by cases X with|none=>rfl|some x=>cases h
theorem opt_some{X:Option VertM}{y:VertM}(h:X.isSome=true)(hy:optV X=y):X=some y:=by cases X with|none=>cases h|some x=>exact congrArg some hy
attribute [local irreducible] goodP hasM nextM vecM checkM refMet vertM isKind optV
set_option maxHeartbeats 16000000 in
set_option maxRecDepth 100000 in
theorem rcheck20_any(gv:Value)(xs:List LaidP)(x:LaidP)(w:World)(hv:Pats w gv xs)(hp:PatOk w x)(hn:xs.length≤300)(ho:OrdL (patsOf xs))(hw:WfG (patsOf xs))(hl:∀ y∈xs,y.p.ops.length≤260)(hlx:x.p.ops.length≤260)(_:x.p.deps.length≤40000)(hz:∀ o∈x.p.ops,o.text.size≤maxLen) :
  Calls Tryz.prog 82 #[rgV gv,patV x.p.id x.dv x.ov] w fun e w'=>e=.returned (.int .i64 ((checkM (patsOf xs) x.p:Nat):Int))∧Below w.heap.size w w':=by
 have HV:=Lh hv
 have HPx:=Lh hp
 have HO:=Lh ho
 have HW:=Lh hw
 have HZ:=Lh hz
 have HLX:Hid (∀ y∈xs++[x],y.p.ops.length≤40000):=Lh fun y hy=>by
  rcases List.mem_append.1 hy with hy|hy
  ·
   exact Nat.le_trans (hl y hy) (by omega)
  ·
   rw [List.mem_singleton.1 hy];omega
 have HLe:Hid (∀ b,vecM (patsOf xs) b≤60000):=Lh hw.vec
 obtain⟨a,cap,rfl,h1,h2,hc⟩:=hv.1.at encPat_len
 unfold maxLen at h2
 have HC:=Lh hc
 obtain⟨ad,capd,hdv,d1,d2,hcd⟩:=hp.1.at encPid_len
 obtain⟨ao,capo,hov,o1,o2,hco⟩:=hp.2.at encOp_len
 unfold maxLen at d2 o2
 have HCd:=Lh hcd
 have HCo:=Lh hco
 clear hv hp ho hw hl hc hcd hco hz
 have HDV:=Lh hdv
 have HOV:=Lh hov
 unfold rgV patV
 rw [hdv,hov]
 clear hdv hov
 have HG:=Lh ((anw w #[.slice a xs.length cap] 35).alloc (.cells #[.int .u8 x.p.id.author.toNat,.int .u16 x.p.id.seq.toNat,.slice ad x.p.deps.length capd,.slice ao x.p.ops.length capo] 61))
 have HP:=Lh (an2 w (.cells #[.slice a xs.length cap] 35) #[.int .u8 x.p.id.author.toNat,.int .u16 x.p.id.seq.toNat,.slice ad x.p.deps.length capd,.slice ao x.p.ops.length capo] 61)
 have HB:=Lh ((bnew (w:=w) (.cells #[.slice a xs.length cap] 35)).alloc (by simp) (.cells #[.int .u8 x.p.id.author.toNat,.int .u16 x.p.id.seq.toNat,.slice ad x.p.deps.length capd,.slice ao x.p.ops.length capo] 61))
 go_enter Tryz.func82,Tryz.ntmps82
 go_upto_region 1 with(fail)
 generalize hw0:(w.alloc (.cells #[.slice a xs.length cap] 35)).alloc (.cells #[.int .u8 x.p.id.author.toNat,.int .u16 x.p.id.seq.toNat,.slice ad x.p.deps.length capd,.slice ao x.p.ops.length capo] 61)=w0 at *
 clear hw0
 have g0:=HG.out.k 0 rfl
 have sg:=HG.out.lt
 have p0:=HP.out.k 0 rfl
 have p1:=HP.out.k 1 rfl
 have p2:=HP.out.k 2 rfl
 have p3:=HP.out.k 3 rfl
 have sp:=HP.out.lt
 have HV0:=Lh (HV.out.over HB.out)
 have HP0:=Lh ((show PatOk w0 x from⟨HPx.out.1.over HB.out,HPx.out.2.over HB.out⟩))
 have HGood:Hid (∀ W,Below w0.heap.size w0 W→Calls Tryz.prog 126 #[.agg #[.int .u8 x.p.id.author.toNat,.int .u16 x.p.id.seq.toNat,.slice ad x.p.deps.length capd,.slice ao x.p.ops.length capo]] W fun e w'=>e=.returned (.bool (goodP x.p))∧Below W.heap.size W w'):=Lh fun W hb=>by
  have:=rgood_any x.p.id x.dv x.ov x.p.deps x.p.ops W (HP0.out.1.over hb) (HP0.out.2.over hb) (by omega) HZ.out
  unfold patV at this
  rw [HDV.out,HOV.out,goodR_eq] at this
  exact this
 cases hg:goodP x.p with
 | false =>
  have HCk:=Lh (check_1 (L:=patsOf xs) hg)
  rw [hg] at HGood
  clear hg
  go_wp2_with (first|(go_at_call 126;(with_reducible refine(HGood.out _ (Below.refl _ _)).mono ?_);rintro e w1 ⟨rfl,hb1⟩))
  go_ret
  exact⟨ret_int (by rw [HCk.out];rfl),bov HB.out HB.out.size hb1⟩
 | true =>
 have HGd:=Lh hg
 rw [hg] at HGood
 clear hg
 go_upto_region 3 with(first|(go_at_call 126;(with_reducible refine(HGood.out _ (Below.refl _ _)).mono ?_);rintro e w1 ⟨rfl,hb1⟩))
 have HB1:=Lh (bov HB.out HB.out.size hb1)
 have HG1:=Lh (HG.out.over hb1)
 have HP1:=Lh (HP.out.over hb1)
 have HV1:=Lh (HV.out.over HB1.out)
 clear g0 sg p0 p1 p2 p3 sp hb1 HGood HP0 HV0
 have g0:=HG1.out.k 0 rfl
 have sg:=HG1.out.lt
 have p0:=HP1.out.k 0 rfl
 have p1:=HP1.out.k 1 rfl
 have p2:=HP1.out.k 2 rfl
 have p3:=HP1.out.k 3 rfl
 have sp:=HP1.out.lt
 have HHas:Hid (∀ W,Below w1.heap.size w1 W→Calls Tryz.prog 127 #[.agg #[.slice a xs.length cap],.agg #[.int .u8 x.p.id.author.toNat,.int .u16 x.p.id.seq.toNat]] W fun e w'=>e=.returned (.bool (hasM (patsOf xs) x.p.id))∧Below W.heap.size W w'):=Lh fun W hb=>rhas20_any _ xs x.p.id W (HV1.out.over hb)
 cases hh:hasM (patsOf xs) x.p.id with
 | true =>
  have HCk:=Lh (check_7 HGd.out hh)
  rw [hh] at HHas
  clear hh
  go_wp2_with (first|(go_at_call 127;(with_reducible refine(HHas.out _ (Below.refl _ _)).mono ?_);rintro e w2 ⟨rfl,hb2⟩))
  go_ret
  exact⟨ret_int (by rw [HCk.out];rfl),bov HB1.out HB1.out.size hb2⟩
 | false =>
 have HHs:=Lh hh
 rw [hh] at HHas
 clear hh
 go_upto_region 5 with(first|(go_at_call 127;(with_reducible refine(HHas.out _ (Below.refl _ _)).mono ?_);rintro e w2 ⟨rfl,hb2⟩))
 have HB2:=Lh (bov HB1.out HB1.out.size hb2)
 have HG2:=Lh (HG1.out.over hb2)
 have HP2:=Lh (HP1.out.over hb2)
 have HV2:=Lh (HV.out.over HB2.out)
 clear g0 sg p0 p1 p2 p3 sp hb2 HHas HV1
 have g0:=HG2.out.k 0 rfl
 have sg:=HG2.out.lt
 have p0:=HP2.out.k 0 rfl
 have p1:=HP2.out.k 1 rfl
 have p2:=HP2.out.k 2 rfl
 have p3:=HP2.out.k 3 rfl
 have sp:=HP2.out.lt
 generalize hq:nextM (patsOf xs) x.p.id.author=q at *
 have HQ:=Lh hq
 have HVec:Hid (∀ W,Below w2.heap.size w2 W→Calls Tryz.prog 128 #[.agg #[.slice a xs.length cap]] W fun e w'=>e=.returned (.agg (vecL (vecM (patsOf xs))).toArray)∧Below W.heap.size W w'):=Lh fun W hb=>rvec20_any _ xs W (HV2.out.over hb) hn HO.out HW.out
 have HNx:Hid (∀ W,Calls Tryz.prog 25 #[.agg (vecL (vecM (patsOf xs))).toArray,.int .u8 x.p.id.author.toNat] W fun e w'=>e=.returned (.agg #[.int .u8 q.author.toNat,.int .u16 q.seq.toNat])∧Below W.heap.size W w'):=Lh fun W=>by
  have:=rnext_any (vecM (patsOf xs)) HLe.out x.p.id.author W
  rw [← nextM_F,hq] at this
  exact this
 clear hq
 have gd:=fun p q xs ys w=>guard_pid .neq p q xs ys w
 have en:=neq_pid q x.p.id (!decide (q=x.p.id)) rfl
 unfold pidV at en
 rcases Classical.em (q=x.p.id) with hqx|hqx
 rotate_left
 ·
  have HCk:=Lh (check_9 HGd.out HHs.out (by rw [HQ.out];exact hqx))
  rw [decide_eq_false hqx] at en
  clear hqx
  have hcur:Below w2.heap.size w2 w2.drew:=(Below.refl _ _).drew
  refine wlex (C:=IsOver w2) 9 [] (by kernel_rfl) (by kernel_rfl) (iov hcur) ?_
  simp only [Tsc,Tz,Dsc,Dz]
  repeat(first|(refine lxs rfl rfl ?_;simp only [Act.put,Sib,Scs,Scz])|(refine lxo rfl ?_;go_big_quiet_step (fail);refine wpQuiet_nil ?_)|(refine lxl rfl ?_;go_wp2_with (first|(go_at_call 128;(with_reducible refine(HVec.out _ hcur).mono ?_);rintro e w' ⟨rfl,hb⟩;replace hcur:=bov hcur hcur.size hb;clear hb)|(go_at_call 25;(with_reducible refine(HNx.out _).mono ?_);rintro e w' ⟨rfl,hb⟩;replace hcur:=bov hcur hcur.size hb;clear hb));refine⟨iov hcur,?_⟩))
  refine lxe ?_
  rename World=>w3
  have HB3:=Lh (bov HB2.out HB2.out.size hcur)
  clear hcur
  go_wp2_with fail
  go_ret
  exact⟨ret_int (by rw [HCk.out];rfl),HB3.out⟩
 have HNxt:=Lh (HQ.out.trans hqx)
 rw [decide_eq_true hqx] at en
 clear hqx
 have hcur:Below w2.heap.size w2 w2.drew:=(Below.refl _ _).drew
 refine wlex (C:=IsOver w2) 9 [] (by kernel_rfl) (by kernel_rfl) (iov hcur) ?_
 simp only [Tsc,Tz,Dsc,Dz]
 repeat(first|(refine lxs rfl rfl ?_;simp only [Act.put,Sib,Scs,Scz])|(refine lxo rfl ?_;go_big_quiet_step (fail);refine wpQuiet_nil ?_)|(refine lxl rfl ?_;go_wp2_with (first|(go_at_call 128;(with_reducible refine(HVec.out _ hcur).mono ?_);rintro e w' ⟨rfl,hb⟩;replace hcur:=bov hcur hcur.size hb;clear hb)|(go_at_call 25;(with_reducible refine(HNx.out _).mono ?_);rintro e w' ⟨rfl,hb⟩;replace hcur:=bov hcur hcur.size hb;clear hb));refine⟨iov hcur,?_⟩))
 refine lxe ?_
 rename World=>w3
 have HB3:=Lh (bov HB2.out HB2.out.size hcur)
 have HG3:=Lh (HG2.out.over hcur)
 have HP3:=Lh (HP2.out.over hcur)
 have HV3:=Lh (HV.out.over HB3.out)
 clear g0 sg p0 p1 p2 p3 sp hcur HVec HNx en HQ HV2
 have g0:=HG3.out.k 0 rfl
 have sg:=HG3.out.lt
 have p0:=HP3.out.k 0 rfl
 have p1:=HP3.out.k 1 rfl
 have p2:=HP3.out.k 2 rfl
 have p3:=HP3.out.k 3 rfl
 have sp:=HP3.out.lt
 go_wp2_with fail
 go_loopw [5] (fun v5 wr=>CkDeps w3 xs x.p.deps v5 wr) (fun v5 _=>x.p.deps.length - (intOf v5).toNat)
 case atStart=>exact⟨0,Nat.zero_le _,rfl,(by show _=_;simp),Below.refl _ _⟩
 case round =>
  obtain⟨k,hk,rfl,HM,hbl⟩:=hrel
  rename World=>wr
  have HBr:=Lh (bov HB3.out HB3.out.size hbl)
  have HGr:=Lh (HG3.out.over hbl)
  have HPr:=Lh (HP3.out.over hbl)
  have HVr:=Lh (HV3.out.over hbl)
  clear g0 sg p0 p1 p2 p3 sp
  have g0:=HGr.out.k 0 rfl
  have sg:=HGr.out.lt
  have p0:=HPr.out.k 0 rfl
  have p1:=HPr.out.k 1 rfl
  have p2:=HPr.out.k 2 rfl
  have p3:=HPr.out.k 3 rfl
  have sp:=HPr.out.lt
  by_cases hlt:k<x.p.deps.length
  ·
   obtain⟨bd,od,rfl,sbd,hcw⟩:=HCd.out.resolve_left (by omega)
   obtain⟨d,hd⟩:=gol hlt
   have HD:=Lh (hcw k d hd wr HBr.out)
   have HDk:=Lh hd
   have y0:wr.cell? ⟨bd,od+k*2,none⟩=some (.int .u8 d.author.toNat):=(HD.out).2 0 _ rfl
   have y1:wr.cell? ⟨bd,od+k*2+1,none⟩=some (.int .u16 d.seq.toNat):=(HD.out).2 1 _ rfl
   have sy:=HD.out.1
   have HHas:Hid (∀ W,Below wr.heap.size wr W→Calls Tryz.prog 127 #[.agg #[.slice a xs.length cap],.agg #[.int .u8 d.author.toNat,.int .u16 d.seq.toNat]] W fun e w'=>e=.returned (.bool (hasM (patsOf xs) d))∧Below W.heap.size W w'):=Lh fun W hb=>rhas20_any _ xs d W (HVr.out.over hb)
   clear hcw hd
   cases hh:hasM (patsOf xs) d with
   | false =>
    have HCk:=Lh (check_9d HGd.out HHs.out HNxt.out (List.mem_of_getElem? HDk.out) hh)
    rw [hh] at HHas
    clear hh
    go_upto_region 10 with(fail)
    have hcur:Below wr.heap.size wr wr.drew:=(Below.refl _ _).drew
    refine wlex (C:=IsOver wr) 8 [] (by kernel_rfl) (by kernel_rfl) (iov hcur) ?_
    simp only [Tsc,Tz,Dsc,Dz]
    repeat(first|(refine lxs rfl rfl ?_;simp only [Act.put,Sib,Scs,Scz])|(refine lxo rfl ?_;go_big_quiet_step (fail);refine wpQuiet_nil ?_)|(refine lxl rfl ?_;go_wp2_with (first|(go_at_call 127;(with_reducible refine(HHas.out _ hcur).mono ?_);rintro e w' ⟨rfl,hb⟩;replace hcur:=bov hcur hcur.size hb;clear hb));refine⟨iov hcur,?_⟩))
    refine lxe ?_
    rename World=>w4
    have HB4:=Lh (bov HBr.out HBr.out.size hcur)
    clear hcur
    go_wp2_with fail
    go_ret
    exact⟨ret_int (by rw [HCk.out];rfl),HB4.out⟩
   | true =>
    have HN:=Lh (all_step HM.out HDk.out hh)
    rw [hh] at HHas
    clear hh
    go_upto_region 10 with(fail)
    have hcur:Below wr.heap.size wr wr.drew:=(Below.refl _ _).drew
    refine wlex (C:=IsOver wr) 8 [] (by kernel_rfl) (by kernel_rfl) (iov hcur) ?_
    simp only [Tsc,Tz,Dsc,Dz]
    repeat(first|(refine lxs rfl rfl ?_;simp only [Act.put,Sib,Scs,Scz])|(refine lxo rfl ?_;go_big_quiet_step (fail);refine wpQuiet_nil ?_)|(refine lxl rfl ?_;go_wp2_with (first|(go_at_call 127;(with_reducible refine(HHas.out _ hcur).mono ?_);rintro e w' ⟨rfl,hb⟩;replace hcur:=bov hcur hcur.size hb;clear hb));refine⟨iov hcur,?_⟩))
    refine lxe ?_
    rename World=>w4
    have HB4:=Lh (bov hbl hbl.size hcur)
    clear hcur
    go_wp2_with fail
    go_roundw
    case rel=>exact⟨k+1,hlt,by go_num,HN,HB4.out⟩
    case measure=>simp [intOf];omega
  ·
   obtain rfl:k=x.p.deps.length:=by omega
   have HDp:=HM.out
   rw [List.take_length] at HDp
   have HDa:=Lh HDp
   clear HDp HM hlt
   have HXS:Hid (Row wr (.slice a xs.length cap) xs.length 4 (xs.flatMap encPat)):=Lh HVr.out.1
   have HOne:=Lh (onePats HVr.out.2)
   have HOneX:Hid (∀ u∈([.int .u8 x.p.id.author.toNat,.int .u16 x.p.id.seq.toNat,.slice ad x.p.deps.length capd,.slice ao x.p.ops.length capo]:List Value),u.oneCell'=true):=Lh (by intro u hu;simp only [List.mem_cons,List.not_mem_nil,or_false] at hu;rcases hu with rfl|rfl|rfl|rfl <;> rfl)
   have HEP:Hid (encPat x=[.int .u8 x.p.id.author.toNat,.int .u16 x.p.id.seq.toNat,.slice ad x.p.deps.length capd,.slice ao x.p.ops.length capo]):=Lh (by unfold encPat;rw [HDV.out,HOV.out])
   have hN1:0+xs.length≤1099511627776:=by omega
   have hN2:0+xs.length+1≤1099511627776:=by omega
   have HKS:Hid (∀ w':World,Below wr.heap.size wr w'→(Below wr.heap.size wr w'∧w'.cell? ⟨w.heap.size,0,none⟩=some (.slice a xs.length cap)∧w'.cell? ⟨w.heap.size+1,0,none⟩=some (.int .u8 x.p.id.author.toNat)∧w'.cell? ⟨w.heap.size+1,1,none⟩=some (.int .u16 x.p.id.seq.toNat)∧w'.cell? ⟨w.heap.size+1,2,none⟩=some (.slice ad x.p.deps.length capd)∧w'.cell? ⟨w.heap.size+1,3,none⟩=some (.slice ao x.p.ops.length capo))):=Lh fun w' hb=>⟨hb,(hb.cell (p:=⟨w.heap.size,0,none⟩) sg).trans g0,(hb.cell (p:=⟨w.heap.size+1,0,none⟩) sp).trans p0,(hb.cell (p:=⟨w.heap.size+1,1,none⟩) sp).trans p1,(hb.cell (p:=⟨w.heap.size+1,2,none⟩) sp).trans p2,(hb.cell (p:=⟨w.heap.size+1,3,none⟩) sp).trans p3⟩
   go_upto_region 12 with(fail)
   go_cut [6] (fun s6 wx=>AllCut wr xs x s6 wx)
   case first =>
    go_region_held3 (fun w'=>Below wr.heap.size wr w'∧w'.cell? ⟨w.heap.size,0,none⟩=some (.slice a xs.length cap)∧w'.cell? ⟨w.heap.size+1,0,none⟩=some (.int .u8 x.p.id.author.toNat)∧w'.cell? ⟨w.heap.size+1,1,none⟩=some (.int .u16 x.p.id.seq.toNat)∧w'.cell? ⟨w.heap.size+1,2,none⟩=some (.slice ad x.p.deps.length capd)∧w'.cell? ⟨w.heap.size+1,3,none⟩=some (.slice ao x.p.ops.length capo)) (first|(rename_i hH _ _;refine HKS.out _ ?_;(with_reducible (first|exact HB2c.out|exact HB1c.out|exact HB2c.out.alloc HB2c.out.size _|exact below_d1 wr _|exact below_d2 wr _ _|exact below_d3 wr _ _ _|exact Below.alloc hH.1 hH.1.size _|exact below_set HB2c.out (by have:=HB1c.out.size;omega) _)))|(refine HKS.out _ ?_;exact(Below.refl _ _).drew))
     (first|(rename_i hH _ _;rw [if_pos (by rfl)];refine wp_append_rowAt slPat _ _ rfl wr.heap.size v1 (0+xs.length) ([]++xs.flatMap encPat) (by(with_reducible first|exact HO1.out|exact HO1.out.alloc _|exact(HO1.out.alloc _).alloc _)) rfl (.slice (some ⟨wr.heap.size,0,none⟩) 1 1) 1 [.int .u8 x.p.id.author.toNat,.int .u16 x.p.id.seq.toNat,.slice ad x.p.deps.length capd,.slice ao x.p.ops.length capo] (by(with_reducible first|exact row_arr HL1.out.1 rfl|exact row_arr (HL1.out.1.alloc _) rfl|exact row_arr (anw w1 _ _) rfl|exact row_arr ((anw w1 _ _).alloc _) rfl|exact row_arr (an2 w1 _ _ _) rfl)) rfl HOneX.out hN2 (by decide) hH.1.size ?_;intro v2 w2 ho2 hg2 hv2;obtain⟨b2,l2,c2,rfl⟩:=own_slice ho2;have HB2c:=Lh (bgr hH.1 hH.1.size (by(with_reducible first|exact HO1.out|exact HO1.out.alloc _|exact(HO1.out.alloc _).alloc _):World.ownsRow _ wr.heap.size 61 4 v1 (0+xs.length) ([]++xs.flatMap encPat)) hg2);have HO2:=Lh ho2;(try(first|(have HX2:Hid (Arr w2 (wr.heap.size) [.slice none 0 0]∧(Value.slice b2 l2 c2).ownBlock≠some (wr.heap.size)):=Lh (keep_arr2 hg2 hv2 (by(with_reducible first|exact HX1.out.1|exact HX1.out.1.alloc _)) HX1.out.2))|(have HX2:Hid (Arr w2 (wr.heap.size+1) [.slice none 0 0]∧(Value.slice b2 l2 c2).ownBlock≠some (wr.heap.size+1)):=Lh (keep_arr2 hg2 hv2 (by(with_reducible first|exact HX1.out.1|exact HX1.out.1.alloc _)) HX1.out.2))|(have HX2:Hid (Arr w2 (wr.heap.size+1+1) [.slice none 0 0]∧(Value.slice b2 l2 c2).ownBlock≠some (wr.heap.size+1+1)):=Lh (keep_arr2 hg2 hv2 (by(with_reducible first|exact HX1.out.1|exact HX1.out.1.alloc _)) HX1.out.2))|(have HX2:Hid (Arr w2 (w1.heap.size) [.slice none 0 0]∧(Value.slice b2 l2 c2).ownBlock≠some (w1.heap.size)):=Lh (keep_arr2 hg2 hv2 (by(with_reducible first|exact anw w1 _ _|exact(anw w1 _ _).alloc _|exact an2 w1 _ _ _)) (own_ne HO1.out (by simp))))|(have HX2:Hid (Arr w2 (w1.heap.size+1) [.slice none 0 0]∧(Value.slice b2 l2 c2).ownBlock≠some (w1.heap.size+1)):=Lh (keep_arr2 hg2 hv2 (by(with_reducible first|exact anw w1 _ _|exact(anw w1 _ _).alloc _|exact an2 w1 _ _ _)) (own_ne HO1.out (by simp))))));(try(have c8:=HX2.out.1.k 0 rfl;have f8:=HX2.out.1.free 0;have s8:=HX2.out.1.lt));clear ho2 hg2 hv2)|(rename_i hH _ _;rw [if_pos (by rfl)];refine wp_append_rowAt slPat _ _ rfl wr.heap.size v1 (0+xs.length) ([]++xs.flatMap encPat) (by(with_reducible first|exact HO1.out|exact HO1.out.alloc _|exact(HO1.out.alloc _).alloc _)) rfl (.slice (some ⟨wr.heap.size+1,0,none⟩) 1 1) 1 [.int .u8 x.p.id.author.toNat,.int .u16 x.p.id.seq.toNat,.slice ad x.p.deps.length capd,.slice ao x.p.ops.length capo] (by(with_reducible first|exact row_arr HL1.out.1 rfl|exact row_arr (HL1.out.1.alloc _) rfl|exact row_arr (anw w1 _ _) rfl|exact row_arr ((anw w1 _ _).alloc _) rfl|exact row_arr (an2 w1 _ _ _) rfl)) rfl HOneX.out hN2 (by decide) hH.1.size ?_;intro v2 w2 ho2 hg2 hv2;obtain⟨b2,l2,c2,rfl⟩:=own_slice ho2;have HB2c:=Lh (bgr hH.1 hH.1.size (by(with_reducible first|exact HO1.out|exact HO1.out.alloc _|exact(HO1.out.alloc _).alloc _):World.ownsRow _ wr.heap.size 61 4 v1 (0+xs.length) ([]++xs.flatMap encPat)) hg2);have HO2:=Lh ho2;(try(first|(have HX2:Hid (Arr w2 (wr.heap.size) [.slice none 0 0]∧(Value.slice b2 l2 c2).ownBlock≠some (wr.heap.size)):=Lh (keep_arr2 hg2 hv2 (by(with_reducible first|exact HX1.out.1|exact HX1.out.1.alloc _)) HX1.out.2))|(have HX2:Hid (Arr w2 (wr.heap.size+1) [.slice none 0 0]∧(Value.slice b2 l2 c2).ownBlock≠some (wr.heap.size+1)):=Lh (keep_arr2 hg2 hv2 (by(with_reducible first|exact HX1.out.1|exact HX1.out.1.alloc _)) HX1.out.2))|(have HX2:Hid (Arr w2 (wr.heap.size+1+1) [.slice none 0 0]∧(Value.slice b2 l2 c2).ownBlock≠some (wr.heap.size+1+1)):=Lh (keep_arr2 hg2 hv2 (by(with_reducible first|exact HX1.out.1|exact HX1.out.1.alloc _)) HX1.out.2))|(have HX2:Hid (Arr w2 (w1.heap.size) [.slice none 0 0]∧(Value.slice b2 l2 c2).ownBlock≠some (w1.heap.size)):=Lh (keep_arr2 hg2 hv2 (by(with_reducible first|exact anw w1 _ _|exact(anw w1 _ _).alloc _|exact an2 w1 _ _ _)) (own_ne HO1.out (by simp))))|(have HX2:Hid (Arr w2 (w1.heap.size+1) [.slice none 0 0]∧(Value.slice b2 l2 c2).ownBlock≠some (w1.heap.size+1)):=Lh (keep_arr2 hg2 hv2 (by(with_reducible first|exact anw w1 _ _|exact(anw w1 _ _).alloc _|exact an2 w1 _ _ _)) (own_ne HO1.out (by simp))))));(try(have c8:=HX2.out.1.k 0 rfl;have f8:=HX2.out.1.free 0;have s8:=HX2.out.1.lt));clear ho2 hg2 hv2)|(rename_i hH _ _;rw [if_pos (by rfl)];refine wp_append_rowAt slPat _ _ rfl wr.heap.size v1 (0+xs.length) ([]++xs.flatMap encPat) (by(with_reducible first|exact HO1.out|exact HO1.out.alloc _|exact(HO1.out.alloc _).alloc _)) rfl (.slice (some ⟨wr.heap.size+1+1,0,none⟩) 1 1) 1 [.int .u8 x.p.id.author.toNat,.int .u16 x.p.id.seq.toNat,.slice ad x.p.deps.length capd,.slice ao x.p.ops.length capo] (by(with_reducible first|exact row_arr HL1.out.1 rfl|exact row_arr (HL1.out.1.alloc _) rfl|exact row_arr (anw w1 _ _) rfl|exact row_arr ((anw w1 _ _).alloc _) rfl|exact row_arr (an2 w1 _ _ _) rfl)) rfl HOneX.out hN2 (by decide) hH.1.size ?_;intro v2 w2 ho2 hg2 hv2;obtain⟨b2,l2,c2,rfl⟩:=own_slice ho2;have HB2c:=Lh (bgr hH.1 hH.1.size (by(with_reducible first|exact HO1.out|exact HO1.out.alloc _|exact(HO1.out.alloc _).alloc _):World.ownsRow _ wr.heap.size 61 4 v1 (0+xs.length) ([]++xs.flatMap encPat)) hg2);have HO2:=Lh ho2;(try(first|(have HX2:Hid (Arr w2 (wr.heap.size) [.slice none 0 0]∧(Value.slice b2 l2 c2).ownBlock≠some (wr.heap.size)):=Lh (keep_arr2 hg2 hv2 (by(with_reducible first|exact HX1.out.1|exact HX1.out.1.alloc _)) HX1.out.2))|(have HX2:Hid (Arr w2 (wr.heap.size+1) [.slice none 0 0]∧(Value.slice b2 l2 c2).ownBlock≠some (wr.heap.size+1)):=Lh (keep_arr2 hg2 hv2 (by(with_reducible first|exact HX1.out.1|exact HX1.out.1.alloc _)) HX1.out.2))|(have HX2:Hid (Arr w2 (wr.heap.size+1+1) [.slice none 0 0]∧(Value.slice b2 l2 c2).ownBlock≠some (wr.heap.size+1+1)):=Lh (keep_arr2 hg2 hv2 (by(with_reducible first|exact HX1.out.1|exact HX1.out.1.alloc _)) HX1.out.2))|(have HX2:Hid (Arr w2 (w1.heap.size) [.slice none 0 0]∧(Value.slice b2 l2 c2).ownBlock≠some (w1.heap.size)):=Lh (keep_arr2 hg2 hv2 (by(with_reducible first|exact anw w1 _ _|exact(anw w1 _ _).alloc _|exact an2 w1 _ _ _)) (own_ne HO1.out (by simp))))|(have HX2:Hid (Arr w2 (w1.heap.size+1) [.slice none 0 0]∧(Value.slice b2 l2 c2).ownBlock≠some (w1.heap.size+1)):=Lh (keep_arr2 hg2 hv2 (by(with_reducible first|exact anw w1 _ _|exact(anw w1 _ _).alloc _|exact an2 w1 _ _ _)) (own_ne HO1.out (by simp))))));(try(have c8:=HX2.out.1.k 0 rfl;have f8:=HX2.out.1.free 0;have s8:=HX2.out.1.lt));clear ho2 hg2 hv2)|(rename_i hH _ _;rw [if_pos (by rfl)];refine wp_append_rowAt slPat _ _ rfl wr.heap.size v1 (0+xs.length) ([]++xs.flatMap encPat) (by(with_reducible first|exact HO1.out|exact HO1.out.alloc _|exact(HO1.out.alloc _).alloc _)) rfl (.slice (some ⟨w1.heap.size,0,none⟩) 1 1) 1 [.int .u8 x.p.id.author.toNat,.int .u16 x.p.id.seq.toNat,.slice ad x.p.deps.length capd,.slice ao x.p.ops.length capo] (by(with_reducible first|exact row_arr HL1.out.1 rfl|exact row_arr (HL1.out.1.alloc _) rfl|exact row_arr (anw w1 _ _) rfl|exact row_arr ((anw w1 _ _).alloc _) rfl|exact row_arr (an2 w1 _ _ _) rfl)) rfl HOneX.out hN2 (by decide) hH.1.size ?_;intro v2 w2 ho2 hg2 hv2;obtain⟨b2,l2,c2,rfl⟩:=own_slice ho2;have HB2c:=Lh (bgr hH.1 hH.1.size (by(with_reducible first|exact HO1.out|exact HO1.out.alloc _|exact(HO1.out.alloc _).alloc _):World.ownsRow _ wr.heap.size 61 4 v1 (0+xs.length) ([]++xs.flatMap encPat)) hg2);have HO2:=Lh ho2;(try(first|(have HX2:Hid (Arr w2 (wr.heap.size) [.slice none 0 0]∧(Value.slice b2 l2 c2).ownBlock≠some (wr.heap.size)):=Lh (keep_arr2 hg2 hv2 (by(with_reducible first|exact HX1.out.1|exact HX1.out.1.alloc _)) HX1.out.2))|(have HX2:Hid (Arr w2 (wr.heap.size+1) [.slice none 0 0]∧(Value.slice b2 l2 c2).ownBlock≠some (wr.heap.size+1)):=Lh (keep_arr2 hg2 hv2 (by(with_reducible first|exact HX1.out.1|exact HX1.out.1.alloc _)) HX1.out.2))|(have HX2:Hid (Arr w2 (wr.heap.size+1+1) [.slice none 0 0]∧(Value.slice b2 l2 c2).ownBlock≠some (wr.heap.size+1+1)):=Lh (keep_arr2 hg2 hv2 (by(with_reducible first|exact HX1.out.1|exact HX1.out.1.alloc _)) HX1.out.2))|(have HX2:Hid (Arr w2 (w1.heap.size) [.slice none 0 0]∧(Value.slice b2 l2 c2).ownBlock≠some (w1.heap.size)):=Lh (keep_arr2 hg2 hv2 (by(with_reducible first|exact anw w1 _ _|exact(anw w1 _ _).alloc _|exact an2 w1 _ _ _)) (own_ne HO1.out (by simp))))|(have HX2:Hid (Arr w2 (w1.heap.size+1) [.slice none 0 0]∧(Value.slice b2 l2 c2).ownBlock≠some (w1.heap.size+1)):=Lh (keep_arr2 hg2 hv2 (by(with_reducible first|exact anw w1 _ _|exact(anw w1 _ _).alloc _|exact an2 w1 _ _ _)) (own_ne HO1.out (by simp))))));(try(have c8:=HX2.out.1.k 0 rfl;have f8:=HX2.out.1.free 0;have s8:=HX2.out.1.lt));clear ho2 hg2 hv2)|(rename_i hH _ _;rw [if_pos (by rfl)];refine wp_append_rowAt slPat _ _ rfl wr.heap.size v1 (0+xs.length) ([]++xs.flatMap encPat) (by(with_reducible first|exact HO1.out|exact HO1.out.alloc _|exact(HO1.out.alloc _).alloc _)) rfl (.slice (some ⟨w1.heap.size+1,0,none⟩) 1 1) 1 [.int .u8 x.p.id.author.toNat,.int .u16 x.p.id.seq.toNat,.slice ad x.p.deps.length capd,.slice ao x.p.ops.length capo] (by(with_reducible first|exact row_arr HL1.out.1 rfl|exact row_arr (HL1.out.1.alloc _) rfl|exact row_arr (anw w1 _ _) rfl|exact row_arr ((anw w1 _ _).alloc _) rfl|exact row_arr (an2 w1 _ _ _) rfl)) rfl HOneX.out hN2 (by decide) hH.1.size ?_;intro v2 w2 ho2 hg2 hv2;obtain⟨b2,l2,c2,rfl⟩:=own_slice ho2;have HB2c:=Lh (bgr hH.1 hH.1.size (by(with_reducible first|exact HO1.out|exact HO1.out.alloc _|exact(HO1.out.alloc _).alloc _):World.ownsRow _ wr.heap.size 61 4 v1 (0+xs.length) ([]++xs.flatMap encPat)) hg2);have HO2:=Lh ho2;(try(first|(have HX2:Hid (Arr w2 (wr.heap.size) [.slice none 0 0]∧(Value.slice b2 l2 c2).ownBlock≠some (wr.heap.size)):=Lh (keep_arr2 hg2 hv2 (by(with_reducible first|exact HX1.out.1|exact HX1.out.1.alloc _)) HX1.out.2))|(have HX2:Hid (Arr w2 (wr.heap.size+1) [.slice none 0 0]∧(Value.slice b2 l2 c2).ownBlock≠some (wr.heap.size+1)):=Lh (keep_arr2 hg2 hv2 (by(with_reducible first|exact HX1.out.1|exact HX1.out.1.alloc _)) HX1.out.2))|(have HX2:Hid (Arr w2 (wr.heap.size+1+1) [.slice none 0 0]∧(Value.slice b2 l2 c2).ownBlock≠some (wr.heap.size+1+1)):=Lh (keep_arr2 hg2 hv2 (by(with_reducible first|exact HX1.out.1|exact HX1.out.1.alloc _)) HX1.out.2))|(have HX2:Hid (Arr w2 (w1.heap.size) [.slice none 0 0]∧(Value.slice b2 l2 c2).ownBlock≠some (w1.heap.size)):=Lh (keep_arr2 hg2 hv2 (by(with_reducible first|exact anw w1 _ _|exact(anw w1 _ _).alloc _|exact an2 w1 _ _ _)) (own_ne HO1.out (by simp))))|(have HX2:Hid (Arr w2 (w1.heap.size+1) [.slice none 0 0]∧(Value.slice b2 l2 c2).ownBlock≠some (w1.heap.size+1)):=Lh (keep_arr2 hg2 hv2 (by(with_reducible first|exact anw w1 _ _|exact(anw w1 _ _).alloc _|exact an2 w1 _ _ _)) (own_ne HO1.out (by simp))))));(try(have c8:=HX2.out.1.k 0 rfl;have f8:=HX2.out.1.free 0;have s8:=HX2.out.1.lt));clear ho2 hg2 hv2)|(rename_i hH _ _;rw [if_pos (by rfl)];refine wp_append_rowAt slPat _ _ rfl wr.heap.size (.slice (some ⟨wr.heap.size,0,none⟩) 0 0) 0 [] (by(with_reducible first|exact own_d1 wr _ 4|exact own_d1a wr _ 4 _|exact own_d1b wr _ 4 _ _|exact own_d2 wr _ _ 4|exact own_d2a wr _ _ 4 _|exact own_d3 wr _ _ _ 4)) rfl (.slice a xs.length cap) xs.length (xs.flatMap encPat) (HXS.out.over hH.1) rfl HOne.out hN1 (by decide) hH.1.size ?_;intro v1 w1 ho1 hg1 hv1;have HK1:=Lh (keep1 (b:=wr.heap.size) rfl hg1 hv1);have HB1c:=Lh (bgr hH.1 hH.1.size (by(with_reducible first|exact own_d1 wr _ 4|exact own_d1a wr _ 4 _|exact own_d1b wr _ 4 _ _|exact own_d2 wr _ _ 4|exact own_d2a wr _ _ 4 _|exact own_d3 wr _ _ _ 4):World.ownsRow _ wr.heap.size 61 4 (.slice (some ⟨wr.heap.size,0,none⟩) 0 0) 0 []) hg1);have HO1:=Lh ho1;(try(first|(have HL1:Hid (Arr w1 (wr.heap.size) [.int .u8 x.p.id.author.toNat,.int .u16 x.p.id.seq.toNat,.slice ad x.p.deps.length capd,.slice ao x.p.ops.length capo]∧v1.ownBlock≠some (wr.heap.size)):=Lh (keep_arr HK1.out (cs:=[.int .u8 x.p.id.author.toNat,.int .u16 x.p.id.seq.toNat,.slice ad x.p.deps.length capd,.slice ao x.p.ops.length capo]) (by(with_reducible first|exact(anw wr _ _).drew|exact((anw wr _ _).alloc _).drew|exact(((anw wr _ _).alloc _).alloc _).drew|exact(an2 wr _ _ _).drew|exact((an2 wr _ _ _).alloc _).drew|exact(arr_new3 wr _ _ _ _).drew)) (by omega)))|(have HL1:Hid (Arr w1 (wr.heap.size+1) [.int .u8 x.p.id.author.toNat,.int .u16 x.p.id.seq.toNat,.slice ad x.p.deps.length capd,.slice ao x.p.ops.length capo]∧v1.ownBlock≠some (wr.heap.size+1)):=Lh (keep_arr HK1.out (cs:=[.int .u8 x.p.id.author.toNat,.int .u16 x.p.id.seq.toNat,.slice ad x.p.deps.length capd,.slice ao x.p.ops.length capo]) (by(with_reducible first|exact(anw wr _ _).drew|exact((anw wr _ _).alloc _).drew|exact(((anw wr _ _).alloc _).alloc _).drew|exact(an2 wr _ _ _).drew|exact((an2 wr _ _ _).alloc _).drew|exact(arr_new3 wr _ _ _ _).drew)) (by omega)))|(have HL1:Hid (Arr w1 (wr.heap.size+1+1) [.int .u8 x.p.id.author.toNat,.int .u16 x.p.id.seq.toNat,.slice ad x.p.deps.length capd,.slice ao x.p.ops.length capo]∧v1.ownBlock≠some (wr.heap.size+1+1)):=Lh (keep_arr HK1.out (cs:=[.int .u8 x.p.id.author.toNat,.int .u16 x.p.id.seq.toNat,.slice ad x.p.deps.length capd,.slice ao x.p.ops.length capo]) (by(with_reducible first|exact(anw wr _ _).drew|exact((anw wr _ _).alloc _).drew|exact(((anw wr _ _).alloc _).alloc _).drew|exact(an2 wr _ _ _).drew|exact((an2 wr _ _ _).alloc _).drew|exact(arr_new3 wr _ _ _ _).drew)) (by omega)))));(try(first|(have HX1:Hid (Arr w1 (wr.heap.size) [.slice none 0 0]∧v1.ownBlock≠some (wr.heap.size)):=Lh (keep_arr HK1.out (cs:=[.slice none 0 0]) (by(with_reducible first|exact(anw wr _ _).drew|exact((anw wr _ _).alloc _).drew|exact(((anw wr _ _).alloc _).alloc _).drew|exact(an2 wr _ _ _).drew|exact((an2 wr _ _ _).alloc _).drew|exact(arr_new3 wr _ _ _ _).drew)) (by omega)))|(have HX1:Hid (Arr w1 (wr.heap.size+1) [.slice none 0 0]∧v1.ownBlock≠some (wr.heap.size+1)):=Lh (keep_arr HK1.out (cs:=[.slice none 0 0]) (by(with_reducible first|exact(anw wr _ _).drew|exact((anw wr _ _).alloc _).drew|exact(((anw wr _ _).alloc _).alloc _).drew|exact(an2 wr _ _ _).drew|exact((an2 wr _ _ _).alloc _).drew|exact(arr_new3 wr _ _ _ _).drew)) (by omega)))|(have HX1:Hid (Arr w1 (wr.heap.size+1+1) [.slice none 0 0]∧v1.ownBlock≠some (wr.heap.size+1+1)):=Lh (keep_arr HK1.out (cs:=[.slice none 0 0]) (by(with_reducible first|exact(anw wr _ _).drew|exact((anw wr _ _).alloc _).drew|exact(((anw wr _ _).alloc _).alloc _).drew|exact(an2 wr _ _ _).drew|exact((an2 wr _ _ _).alloc _).drew|exact(arr_new3 wr _ _ _ _).drew)) (by omega)))));clear ho1 hg1 hv1)|(rename_i hH _ _;rw [if_pos (by rfl)];refine wp_append_rowAt slPat _ _ rfl wr.heap.size (.slice (some ⟨wr.heap.size+1,0,none⟩) 0 0) 0 [] (by(with_reducible first|exact own_d1 wr _ 4|exact own_d1a wr _ 4 _|exact own_d1b wr _ 4 _ _|exact own_d2 wr _ _ 4|exact own_d2a wr _ _ 4 _|exact own_d3 wr _ _ _ 4)) rfl (.slice a xs.length cap) xs.length (xs.flatMap encPat) (HXS.out.over hH.1) rfl HOne.out hN1 (by decide) hH.1.size ?_;intro v1 w1 ho1 hg1 hv1;have HK1:=Lh (keep1 (b:=wr.heap.size+1) rfl hg1 hv1);have HB1c:=Lh (bgr hH.1 hH.1.size (by(with_reducible first|exact own_d1 wr _ 4|exact own_d1a wr _ 4 _|exact own_d1b wr _ 4 _ _|exact own_d2 wr _ _ 4|exact own_d2a wr _ _ 4 _|exact own_d3 wr _ _ _ 4):World.ownsRow _ wr.heap.size 61 4 (.slice (some ⟨wr.heap.size+1,0,none⟩) 0 0) 0 []) hg1);have HO1:=Lh ho1;(try(first|(have HL1:Hid (Arr w1 (wr.heap.size) [.int .u8 x.p.id.author.toNat,.int .u16 x.p.id.seq.toNat,.slice ad x.p.deps.length capd,.slice ao x.p.ops.length capo]∧v1.ownBlock≠some (wr.heap.size)):=Lh (keep_arr HK1.out (cs:=[.int .u8 x.p.id.author.toNat,.int .u16 x.p.id.seq.toNat,.slice ad x.p.deps.length capd,.slice ao x.p.ops.length capo]) (by(with_reducible first|exact(anw wr _ _).drew|exact((anw wr _ _).alloc _).drew|exact(((anw wr _ _).alloc _).alloc _).drew|exact(an2 wr _ _ _).drew|exact((an2 wr _ _ _).alloc _).drew|exact(arr_new3 wr _ _ _ _).drew)) (by omega)))|(have HL1:Hid (Arr w1 (wr.heap.size+1) [.int .u8 x.p.id.author.toNat,.int .u16 x.p.id.seq.toNat,.slice ad x.p.deps.length capd,.slice ao x.p.ops.length capo]∧v1.ownBlock≠some (wr.heap.size+1)):=Lh (keep_arr HK1.out (cs:=[.int .u8 x.p.id.author.toNat,.int .u16 x.p.id.seq.toNat,.slice ad x.p.deps.length capd,.slice ao x.p.ops.length capo]) (by(with_reducible first|exact(anw wr _ _).drew|exact((anw wr _ _).alloc _).drew|exact(((anw wr _ _).alloc _).alloc _).drew|exact(an2 wr _ _ _).drew|exact((an2 wr _ _ _).alloc _).drew|exact(arr_new3 wr _ _ _ _).drew)) (by omega)))|(have HL1:Hid (Arr w1 (wr.heap.size+1+1) [.int .u8 x.p.id.author.toNat,.int .u16 x.p.id.seq.toNat,.slice ad x.p.deps.length capd,.slice ao x.p.ops.length capo]∧v1.ownBlock≠some (wr.heap.size+1+1)):=Lh (keep_arr HK1.out (cs:=[.int .u8 x.p.id.author.toNat,.int .u16 x.p.id.seq.toNat,.slice ad x.p.deps.length capd,.slice ao x.p.ops.length capo]) (by(with_reducible first|exact(anw wr _ _).drew|exact((anw wr _ _).alloc _).drew|exact(((anw wr _ _).alloc _).alloc _).drew|exact(an2 wr _ _ _).drew|exact((an2 wr _ _ _).alloc _).drew|exact(arr_new3 wr _ _ _ _).drew)) (by omega)))));(try(first|(have HX1:Hid (Arr w1 (wr.heap.size) [.slice none 0 0]∧v1.ownBlock≠some (wr.heap.size)):=Lh (keep_arr HK1.out (cs:=[.slice none 0 0]) (by(with_reducible first|exact(anw wr _ _).drew|exact((anw wr _ _).alloc _).drew|exact(((anw wr _ _).alloc _).alloc _).drew|exact(an2 wr _ _ _).drew|exact((an2 wr _ _ _).alloc _).drew|exact(arr_new3 wr _ _ _ _).drew)) (by omega)))|(have HX1:Hid (Arr w1 (wr.heap.size+1) [.slice none 0 0]∧v1.ownBlock≠some (wr.heap.size+1)):=Lh (keep_arr HK1.out (cs:=[.slice none 0 0]) (by(with_reducible first|exact(anw wr _ _).drew|exact((anw wr _ _).alloc _).drew|exact(((anw wr _ _).alloc _).alloc _).drew|exact(an2 wr _ _ _).drew|exact((an2 wr _ _ _).alloc _).drew|exact(arr_new3 wr _ _ _ _).drew)) (by omega)))|(have HX1:Hid (Arr w1 (wr.heap.size+1+1) [.slice none 0 0]∧v1.ownBlock≠some (wr.heap.size+1+1)):=Lh (keep_arr HK1.out (cs:=[.slice none 0 0]) (by(with_reducible first|exact(anw wr _ _).drew|exact((anw wr _ _).alloc _).drew|exact(((anw wr _ _).alloc _).alloc _).drew|exact(an2 wr _ _ _).drew|exact((an2 wr _ _ _).alloc _).drew|exact(arr_new3 wr _ _ _ _).drew)) (by omega)))));clear ho1 hg1 hv1)|(rename_i hH _ _;rw [if_pos (by rfl)];refine wp_append_rowAt slPat _ _ rfl wr.heap.size (.slice (some ⟨wr.heap.size+1+1,0,none⟩) 0 0) 0 [] (by(with_reducible first|exact own_d1 wr _ 4|exact own_d1a wr _ 4 _|exact own_d1b wr _ 4 _ _|exact own_d2 wr _ _ 4|exact own_d2a wr _ _ 4 _|exact own_d3 wr _ _ _ 4)) rfl (.slice a xs.length cap) xs.length (xs.flatMap encPat) (HXS.out.over hH.1) rfl HOne.out hN1 (by decide) hH.1.size ?_;intro v1 w1 ho1 hg1 hv1;have HK1:=Lh (keep1 (b:=wr.heap.size+1+1) rfl hg1 hv1);have HB1c:=Lh (bgr hH.1 hH.1.size (by(with_reducible first|exact own_d1 wr _ 4|exact own_d1a wr _ 4 _|exact own_d1b wr _ 4 _ _|exact own_d2 wr _ _ 4|exact own_d2a wr _ _ 4 _|exact own_d3 wr _ _ _ 4):World.ownsRow _ wr.heap.size 61 4 (.slice (some ⟨wr.heap.size+1+1,0,none⟩) 0 0) 0 []) hg1);have HO1:=Lh ho1;(try(first|(have HL1:Hid (Arr w1 (wr.heap.size) [.int .u8 x.p.id.author.toNat,.int .u16 x.p.id.seq.toNat,.slice ad x.p.deps.length capd,.slice ao x.p.ops.length capo]∧v1.ownBlock≠some (wr.heap.size)):=Lh (keep_arr HK1.out (cs:=[.int .u8 x.p.id.author.toNat,.int .u16 x.p.id.seq.toNat,.slice ad x.p.deps.length capd,.slice ao x.p.ops.length capo]) (by(with_reducible first|exact(anw wr _ _).drew|exact((anw wr _ _).alloc _).drew|exact(((anw wr _ _).alloc _).alloc _).drew|exact(an2 wr _ _ _).drew|exact((an2 wr _ _ _).alloc _).drew|exact(arr_new3 wr _ _ _ _).drew)) (by omega)))|(have HL1:Hid (Arr w1 (wr.heap.size+1) [.int .u8 x.p.id.author.toNat,.int .u16 x.p.id.seq.toNat,.slice ad x.p.deps.length capd,.slice ao x.p.ops.length capo]∧v1.ownBlock≠some (wr.heap.size+1)):=Lh (keep_arr HK1.out (cs:=[.int .u8 x.p.id.author.toNat,.int .u16 x.p.id.seq.toNat,.slice ad x.p.deps.length capd,.slice ao x.p.ops.length capo]) (by(with_reducible first|exact(anw wr _ _).drew|exact((anw wr _ _).alloc _).drew|exact(((anw wr _ _).alloc _).alloc _).drew|exact(an2 wr _ _ _).drew|exact((an2 wr _ _ _).alloc _).drew|exact(arr_new3 wr _ _ _ _).drew)) (by omega)))|(have HL1:Hid (Arr w1 (wr.heap.size+1+1) [.int .u8 x.p.id.author.toNat,.int .u16 x.p.id.seq.toNat,.slice ad x.p.deps.length capd,.slice ao x.p.ops.length capo]∧v1.ownBlock≠some (wr.heap.size+1+1)):=Lh (keep_arr HK1.out (cs:=[.int .u8 x.p.id.author.toNat,.int .u16 x.p.id.seq.toNat,.slice ad x.p.deps.length capd,.slice ao x.p.ops.length capo]) (by(with_reducible first|exact(anw wr _ _).drew|exact((anw wr _ _).alloc _).drew|exact(((anw wr _ _).alloc _).alloc _).drew|exact(an2 wr _ _ _).drew|exact((an2 wr _ _ _).alloc _).drew|exact(arr_new3 wr _ _ _ _).drew)) (by omega)))));(try(first|(have HX1:Hid (Arr w1 (wr.heap.size) [.slice none 0 0]∧v1.ownBlock≠some (wr.heap.size)):=Lh (keep_arr HK1.out (cs:=[.slice none 0 0]) (by(with_reducible first|exact(anw wr _ _).drew|exact((anw wr _ _).alloc _).drew|exact(((anw wr _ _).alloc _).alloc _).drew|exact(an2 wr _ _ _).drew|exact((an2 wr _ _ _).alloc _).drew|exact(arr_new3 wr _ _ _ _).drew)) (by omega)))|(have HX1:Hid (Arr w1 (wr.heap.size+1) [.slice none 0 0]∧v1.ownBlock≠some (wr.heap.size+1)):=Lh (keep_arr HK1.out (cs:=[.slice none 0 0]) (by(with_reducible first|exact(anw wr _ _).drew|exact((anw wr _ _).alloc _).drew|exact(((anw wr _ _).alloc _).alloc _).drew|exact(an2 wr _ _ _).drew|exact((an2 wr _ _ _).alloc _).drew|exact(arr_new3 wr _ _ _ _).drew)) (by omega)))|(have HX1:Hid (Arr w1 (wr.heap.size+1+1) [.slice none 0 0]∧v1.ownBlock≠some (wr.heap.size+1+1)):=Lh (keep_arr HK1.out (cs:=[.slice none 0 0]) (by(with_reducible first|exact(anw wr _ _).drew|exact((anw wr _ _).alloc _).drew|exact(((anw wr _ _).alloc _).alloc _).drew|exact(an2 wr _ _ _).drew|exact((an2 wr _ _ _).alloc _).drew|exact(arr_new3 wr _ _ _ _).drew)) (by omega)))));clear ho1 hg1 hv1))
    all_goals ((first|(rename_i J K hJ hK h1;refine hK _ _ (Met.intro (hJ _ _ ?_)))|(rename_i J K hJ hK h1 h2;refine hK _ _ (Met.intro (hJ _ _ ?_)))|(rename_i J K hJ hK h1 h2 h3;refine hK _ _ (Met.intro (hJ _ _ ?_)))|(rename_i J K hJ hK h1 h2 h3 h4;refine hK _ _ (Met.intro (hJ _ _ ?_)))|(rename_i J K hJ hK h1 h2 h3 h4 h5;refine hK _ _ (Met.intro (hJ _ _ ?_))));(repeat apply Exists.intro);refine⟨?_,rfl⟩;unfold AllCut;first|exact⟨_,_,rfl,Lh (anw w2 _ _),Lh (pat_row (HO2.out.alloc _) HEP.out),Lh (HB2c.out.alloc HB2c.out.size _)⟩|exact⟨_,_,rfl,Lh (HX2.out.1.set 0 _),Lh (pat_row (own_set HO2.out HX2.out.2 _ 0) HEP.out),Lh (below_set HB2c.out (by have:=HB1c.out.size;omega) _)⟩)
   case rest =>
    obtain⟨g6,v6,rfl,HA,HR6,HBx⟩:=hcut
    rename World=>w8
    obtain⟨a6,cap6,rfl,n61,n62,hc6⟩:=HR6.out.at encPat_len
    unfold maxLen at n62
    clear hc6
    obtain⟨n6,hn6⟩:∃ n,(xs++[x]).length=n:=⟨_,rfl⟩
    rw [hn6] at HA HR6 n61
    clear hn6
    have HB8:=Lh (bov HBr.out HBr.out.size HBx.out)
    have HP8:=Lh (HPr.out.over HBx.out)
    have HAll:Hid (Pats w8 (.slice a6 n6 cap6) (xs++[x])):=Lh ⟨HR6.out,fun y hy=>by
     rcases List.mem_append.1 hy with hy|hy
     ·
      exact⟨(HV.out.2 y hy).1.over HB8.out,(HV.out.2 y hy).2.over HB8.out⟩
     ·
      rw [List.mem_singleton.1 hy];exact⟨HPx.out.1.over HB8.out,HPx.out.2.over HB8.out⟩⟩
    have HPs:Hid (patsOf (xs++[x])=(patsOf xs++[x.p])):=Lh (by unfold patsOf;rw [List.map_append];rfl)
    have HVt:Hid (∀(v:VidM) (W:World),Below w8.heap.size w8 W→Calls Tryz.prog 84 #[.agg #[.slice a6 n6 cap6],.agg #[.int .u8 v.pid.author.toNat,.int .u16 v.pid.seq.toNat,.int .u8 v.n.toNat]] W fun e w'=>e=.returned (.tuple #[vertV (optV (vertM (patsOf xs++[x.p]) v)),.bool (vertM (patsOf xs++[x.p]) v).isSome])∧Below W.heap.size W w'):=Lh fun v W hb=>by
     have:=rvert20_any _ (xs++[x]) v W (HAll.out.over hb) HLX.out
     rw [HPs.out] at this
     exact this
    have HIs:Hid (∀(v:VidM) (W:World),Below w8.heap.size w8 W→Calls Tryz.prog 129 #[.agg #[.slice a6 n6 cap6],.agg #[.int .u8 v.pid.author.toNat,.int .u16 v.pid.seq.toNat,.int .u8 v.n.toNat],.int .u8 3] W fun e w'=>e=.returned (.bool (isKind (patsOf xs++[x.p]) v 3))∧Below W.heap.size W w'):=Lh fun v W hb=>by
     have:=ris20_any _ (xs++[x]) v 3 W (HAll.out.over hb) HLX.out
     rw [HPs.out] at this
     exact this
    clear g0 sg p0 p1 p2 p3 sp HR6 HBx HXS HOne HOneX HEP hN1 hN2 HKS
    go_wp2_with fail
    go_loopw [7] (fun v7 wr=>CkOps w8 (patsOf xs++[x.p]) x.p.ops v7 wr) (fun v7 _=>x.p.ops.length - (intOf v7).toNat)
    case atStart=>exact⟨0,Nat.zero_le _,rfl,(by show _=_;simp),Below.refl _ _⟩
    case round =>
     obtain⟨k,hk,rfl,HM,hbl⟩:=hrel
     rename World=>wq
     have HBq:=Lh (bov HB8.out HB8.out.size hbl)
     have HAq:=Lh (HA.out.over hbl)
     have HPq:=Lh (HP8.out.over hbl)
     have c0:=HAq.out.k 0 rfl
     have sc:=HAq.out.lt
     have p0:=HPq.out.k 0 rfl
     have p1:=HPq.out.k 1 rfl
     have p2:=HPq.out.k 2 rfl
     have p3:=HPq.out.k 3 rfl
     have sp:=HPq.out.lt
     by_cases hlt:k<x.p.ops.length
     ·
      obtain⟨b2,off2,rfl,sb2,hcb2⟩:=HCo.out.resolve_left (by omega)
      obtain⟨o,ho⟩:=gol hlt
      have HO:=Lh ho
      have HRo:=Lh (hcb2 k o ho wq HBq.out)
      clear hcb2 ho
      have o0:wq.cell? ⟨b2,off2+k*8,none⟩=some (.int .u8 o.kind.toNat):=(HRo.out).2 0 _ rfl
      have o1:wq.cell? ⟨b2,off2+k*8+1,none⟩=some (.int .u8 o.at'.pid.author.toNat):=(HRo.out).2 1 _ rfl
      have o2:wq.cell? ⟨b2,off2+k*8+2,none⟩=some (.int .u16 o.at'.pid.seq.toNat):=(HRo.out).2 2 _ rfl
      have o3:wq.cell? ⟨b2,off2+k*8+3,none⟩=some (.int .u8 o.at'.n.toNat):=(HRo.out).2 3 _ rfl
      have o4:wq.cell? ⟨b2,off2+k*8+4,none⟩=some (.int .u8 o.to.pid.author.toNat):=(HRo.out).2 4 _ rfl
      have o5:wq.cell? ⟨b2,off2+k*8+5,none⟩=some (.int .u16 o.to.pid.seq.toNat):=(HRo.out).2 5 _ rfl
      have o6:wq.cell? ⟨b2,off2+k*8+6,none⟩=some (.int .u8 o.to.n.toNat):=(HRo.out).2 6 _ rfl
      have o7:wq.cell? ⟨b2,off2+k*8+7,none⟩=some (.string o.text):=(HRo.out).2 7 _ rfl
      have so:=HRo.out.1
      go_upto_region 17 with(fail)
      have HO6:=Lh (anw wq #[.int .u8 o.kind.toNat,.int .u8 o.at'.pid.author.toNat,.int .u16 o.at'.pid.seq.toNat,.int .u8 o.at'.n.toNat,.int .u8 o.to.pid.author.toNat,.int .u16 o.to.pid.seq.toNat,.int .u8 o.to.n.toNat,.string o.text] 58)
      have hb6:=hbl.alloc hbl.size (.cells #[.int .u8 o.kind.toNat,.int .u8 o.at'.pid.author.toNat,.int .u16 o.at'.pid.seq.toNat,.int .u8 o.at'.n.toNat,.int .u8 o.to.pid.author.toNat,.int .u16 o.to.pid.seq.toNat,.int .u8 o.to.n.toNat,.string o.text] 58)
      have HA6:=Lh (HAq.out.alloc (.cells #[.int .u8 o.kind.toNat,.int .u8 o.at'.pid.author.toNat,.int .u16 o.at'.pid.seq.toNat,.int .u8 o.at'.n.toNat,.int .u8 o.to.pid.author.toNat,.int .u16 o.to.pid.seq.toNat,.int .u8 o.to.n.toNat,.string o.text] 58))
      have HB6:=Lh (HBq.out.alloc HBq.out.size (.cells #[.int .u8 o.kind.toNat,.int .u8 o.at'.pid.author.toNat,.int .u16 o.at'.pid.seq.toNat,.int .u8 o.at'.n.toNat,.int .u8 o.to.pid.author.toNat,.int .u16 o.to.pid.seq.toNat,.int .u8 o.to.n.toNat,.string o.text] 58))
      generalize hw6:wq.alloc (.cells #[.int .u8 o.kind.toNat,.int .u8 o.at'.pid.author.toNat,.int .u16 o.at'.pid.seq.toNat,.int .u8 o.at'.n.toNat,.int .u8 o.to.pid.author.toNat,.int .u16 o.to.pid.seq.toNat,.int .u8 o.to.n.toNat,.string o.text] 58)=w6 at *
      clear hw6 o0 o1 o2 o3 o4 o5 o6 o7 so c0 sc p0 p1 p2 p3 sp
      have o0:=HO6.out.k 0 rfl
      have o1:=HO6.out.k 1 rfl
      have o2:=HO6.out.k 2 rfl
      have o3:=HO6.out.k 3 rfl
      have o4:=HO6.out.k 4 rfl
      have o5:=HO6.out.k 5 rfl
      have o6:=HO6.out.k 6 rfl
      have o7:=HO6.out.k 7 rfl
      have so:=HO6.out.lt
      have c0:=HA6.out.k 0 rfl
      have sc:=HA6.out.lt
      obtain⟨X,hX⟩:∃ X,vertM (patsOf xs++[x.p]) o.at'=X:=⟨_,rfl⟩
      obtain⟨Z,hZ⟩:∃ Z,vertM (patsOf xs++[x.p]) o.to=Z:=⟨_,rfl⟩
      obtain⟨y,hy⟩:∃ y,optV X=y:=⟨_,rfl⟩
      obtain⟨z,hz⟩:∃ z,optV Z=z:=⟨_,rfl⟩
      obtain⟨bX,hbX⟩:∃ b,X.isSome=b:=⟨_,rfl⟩
      obtain⟨bZ,hbZ⟩:∃ b,Z.isSome=b:=⟨_,rfl⟩
      have HX:=Lh hX
      have HZ2:=Lh hZ
      have HY:=Lh hy
      have HZz:=Lh hz
      have HbX:=Lh hbX
      have HbZ:=Lh hbZ
      clear hX hZ hy hz hbX hbZ
      have HV1:Hid (∀ W,Below w8.heap.size w8 W→Calls Tryz.prog 84 #[.agg #[.slice a6 n6 cap6],.agg #[.int .u8 o.at'.pid.author.toNat,.int .u16 o.at'.pid.seq.toNat,.int .u8 o.at'.n.toNat]] W fun e w'=>e=.returned (.tuple #[.agg #[.int .u8 y.id.pid.author.toNat,.int .u16 y.id.pid.seq.toNat,.int .u8 y.id.n.toNat,.int .u8 y.kind.toNat,.int .u8 y.file.pid.author.toNat,.int .u16 y.file.pid.seq.toNat,.int .u8 y.file.n.toNat,.string y.text,.bool y.dead],.bool bX])∧Below W.heap.size W w'):=Lh fun W hb=>by
       have:=HVt.out o.at' W hb
       rw [HX.out,HY.out,HbX.out] at this
       exact this
      have HV2:Hid (∀ W,Below w8.heap.size w8 W→Calls Tryz.prog 84 #[.agg #[.slice a6 n6 cap6],.agg #[.int .u8 o.to.pid.author.toNat,.int .u16 o.to.pid.seq.toNat,.int .u8 o.to.n.toNat]] W fun e w'=>e=.returned (.tuple #[.agg #[.int .u8 z.id.pid.author.toNat,.int .u16 z.id.pid.seq.toNat,.int .u8 z.id.n.toNat,.int .u8 z.kind.toNat,.int .u8 z.file.pid.author.toNat,.int .u16 z.file.pid.seq.toNat,.int .u8 z.file.n.toNat,.string z.text,.bool z.dead],.bool bZ])∧Below W.heap.size W w'):=Lh fun W hb=>by
       have:=HVt.out o.to W hb
       rw [HZ2.out,HZz.out,HbZ.out] at this
       exact this
      go_upto_region 18 with(first|(go_at_call 84;(with_reducible refine(HV1.out _ hb6).mono ?_);rintro e w7 ⟨rfl,hb7⟩))
      have hB7:=bov hb6 hb6.size hb7
      have HY7:=Lh (anw w7 #[.int .u8 y.id.pid.author.toNat,.int .u16 y.id.pid.seq.toNat,.int .u8 y.id.n.toNat,.int .u8 y.kind.toNat,.int .u8 y.file.pid.author.toNat,.int .u16 y.file.pid.seq.toNat,.int .u8 y.file.n.toNat,.string y.text,.bool y.dead] 88)
      have hb9:=hB7.alloc hB7.size (.cells #[.int .u8 y.id.pid.author.toNat,.int .u16 y.id.pid.seq.toNat,.int .u8 y.id.n.toNat,.int .u8 y.kind.toNat,.int .u8 y.file.pid.author.toNat,.int .u16 y.file.pid.seq.toNat,.int .u8 y.file.n.toNat,.string y.text,.bool y.dead] 88)
      have HO9:=Lh ((HO6.out.over hb7).alloc (.cells #[.int .u8 y.id.pid.author.toNat,.int .u16 y.id.pid.seq.toNat,.int .u8 y.id.n.toNat,.int .u8 y.kind.toNat,.int .u8 y.file.pid.author.toNat,.int .u16 y.file.pid.seq.toNat,.int .u8 y.file.n.toNat,.string y.text,.bool y.dead] 88))
      have HA9:=Lh ((HA6.out.over hb7).alloc (.cells #[.int .u8 y.id.pid.author.toNat,.int .u16 y.id.pid.seq.toNat,.int .u8 y.id.n.toNat,.int .u8 y.kind.toNat,.int .u8 y.file.pid.author.toNat,.int .u16 y.file.pid.seq.toNat,.int .u8 y.file.n.toNat,.string y.text,.bool y.dead] 88))
      generalize hw9:w7.alloc (.cells #[.int .u8 y.id.pid.author.toNat,.int .u16 y.id.pid.seq.toNat,.int .u8 y.id.n.toNat,.int .u8 y.kind.toNat,.int .u8 y.file.pid.author.toNat,.int .u16 y.file.pid.seq.toNat,.int .u8 y.file.n.toNat,.string y.text,.bool y.dead] 88)=w9 at *
      clear hw9 hb7 hB7 o0 o1 o2 o3 o4 o5 o6 o7 so c0 sc
      have o0:=HO9.out.k 0 rfl
      have o1:=HO9.out.k 1 rfl
      have o2:=HO9.out.k 2 rfl
      have o3:=HO9.out.k 3 rfl
      have o4:=HO9.out.k 4 rfl
      have o5:=HO9.out.k 5 rfl
      have o6:=HO9.out.k 6 rfl
      have o7:=HO9.out.k 7 rfl
      have so:=HO9.out.lt
      have c0:=HA9.out.k 0 rfl
      have sc:=HA9.out.lt
      go_upto_region 19 with(first|(go_at_call 84;(with_reducible refine(HV2.out _ hb9).mono ?_);rintro e w10 ⟨rfl,hb10⟩))
      have hB10:=bov hb9 hb9.size hb10
      have HZ18:=Lh (anw w10 #[.int .u8 z.id.pid.author.toNat,.int .u16 z.id.pid.seq.toNat,.int .u8 z.id.n.toNat,.int .u8 z.kind.toNat,.int .u8 z.file.pid.author.toNat,.int .u16 z.file.pid.seq.toNat,.int .u8 z.file.n.toNat,.string z.text,.bool z.dead] 88)
      have hb18:=hB10.alloc hB10.size (.cells #[.int .u8 z.id.pid.author.toNat,.int .u16 z.id.pid.seq.toNat,.int .u8 z.id.n.toNat,.int .u8 z.kind.toNat,.int .u8 z.file.pid.author.toNat,.int .u16 z.file.pid.seq.toNat,.int .u8 z.file.n.toNat,.string z.text,.bool z.dead] 88)
      have HO18:=Lh ((HO9.out.over hb10).alloc (.cells #[.int .u8 z.id.pid.author.toNat,.int .u16 z.id.pid.seq.toNat,.int .u8 z.id.n.toNat,.int .u8 z.kind.toNat,.int .u8 z.file.pid.author.toNat,.int .u16 z.file.pid.seq.toNat,.int .u8 z.file.n.toNat,.string z.text,.bool z.dead] 88))
      have HY18:=Lh ((HY7.out.over hb10).alloc (.cells #[.int .u8 z.id.pid.author.toNat,.int .u16 z.id.pid.seq.toNat,.int .u8 z.id.n.toNat,.int .u8 z.kind.toNat,.int .u8 z.file.pid.author.toNat,.int .u16 z.file.pid.seq.toNat,.int .u8 z.file.n.toNat,.string z.text,.bool z.dead] 88))
      have HA18:=Lh ((HA9.out.over hb10).alloc (.cells #[.int .u8 z.id.pid.author.toNat,.int .u16 z.id.pid.seq.toNat,.int .u8 z.id.n.toNat,.int .u8 z.kind.toNat,.int .u8 z.file.pid.author.toNat,.int .u16 z.file.pid.seq.toNat,.int .u8 z.file.n.toNat,.string z.text,.bool z.dead] 88))
      generalize hw18:w10.alloc (.cells #[.int .u8 z.id.pid.author.toNat,.int .u16 z.id.pid.seq.toNat,.int .u8 z.id.n.toNat,.int .u8 z.kind.toNat,.int .u8 z.file.pid.author.toNat,.int .u16 z.file.pid.seq.toNat,.int .u8 z.file.n.toNat,.string z.text,.bool z.dead] 88)=w18 at *
      clear hw18 hb10 hB10 o0 o1 o2 o3 o4 o5 o6 o7 so c0 sc HV1 HV2
      have HB18:=Lh (bov HB8.out HB8.out.size hb18)
      have o0:=HO18.out.k 0 rfl
      have o1:=HO18.out.k 1 rfl
      have o2:=HO18.out.k 2 rfl
      have o3:=HO18.out.k 3 rfl
      have o4:=HO18.out.k 4 rfl
      have o5:=HO18.out.k 5 rfl
      have o6:=HO18.out.k 6 rfl
      have o7:=HO18.out.k 7 rfl
      have so:=HO18.out.lt
      have y0:=HY18.out.k 0 rfl
      have y1:=HY18.out.k 1 rfl
      have y2:=HY18.out.k 2 rfl
      have y3:=HY18.out.k 3 rfl
      have y4:=HY18.out.k 4 rfl
      have y5:=HY18.out.k 5 rfl
      have y6:=HY18.out.k 6 rfl
      have y7:=HY18.out.k 7 rfl
      have y8:=HY18.out.k 8 rfl
      have sy:=HY18.out.lt
      have z0:=HZ18.out.k 0 rfl
      have z1:=HZ18.out.k 1 rfl
      have z2:=HZ18.out.k 2 rfl
      have z3:=HZ18.out.k 3 rfl
      have z4:=HZ18.out.k 4 rfl
      have z5:=HZ18.out.k 5 rfl
      have z6:=HZ18.out.k 6 rfl
      have z7:=HZ18.out.k 7 rfl
      have z8:=HZ18.out.k 8 rfl
      have sz:=HZ18.out.lt
      have c0:=HA18.out.k 0 rfl
      have sc:=HA18.out.lt
      have HIs1:Hid (∀ W,Below w18.heap.size w18 W→Calls Tryz.prog 129 #[.agg #[.slice a6 n6 cap6],.agg #[.int .u8 o.at'.pid.author.toNat,.int .u16 o.at'.pid.seq.toNat,.int .u8 o.at'.n.toNat],.int .u8 3] W fun e w'=>e=.returned (.bool (isKind (patsOf xs++[x.p]) o.at' 3))∧Below W.heap.size W w'):=Lh fun W hb=>HIs.out o.at' W (bov hb18 hb18.size hb)
      have HIs2:Hid (∀ W,Below w18.heap.size w18 W→Calls Tryz.prog 129 #[.agg #[.slice a6 n6 cap6],.agg #[.int .u8 o.to.pid.author.toNat,.int .u16 o.to.pid.seq.toNat,.int .u8 o.to.n.toNat],.int .u8 3] W fun e w'=>e=.returned (.bool (isKind (patsOf xs++[x.p]) o.to 3))∧Below W.heap.size W w'):=Lh fun W hb=>HIs.out o.to W (bov hb18 hb18.size hb)
      have gd:=fun p q xs ys w=>guard_vid .neq p q xs ys w
      rcases Classical.em (o.kind.toNat=1) with h1|h1
      ·
       have e1:((o.kind.toNat:Int) != 1)=false:=by simp;omega
       have e2:((o.kind.toNat:Int) == 2)=false:=by simp;omega
       have e3:((o.kind.toNat:Int) == 3)=false:=by simp;omega
       have e4:((o.kind.toNat:Int) == 4)=false:=by simp;omega
       have HK1:=Lh h1
       clear h1
       have HN:=Lh (all_step HM.out HO.out (refMet_1 HK1.out))
       have hcur:=Below.refl w18.heap.size w18
       go_wp2_with fail
       have HBe:=Lh (bov hb18 hb18.size hcur)
       clear hcur
       go_roundw
       case rel=>exact⟨k+1,hlt,by go_num,HN,HBe.out⟩
       case measure=>simp [intOf];omega
      ·
       cases bX with
       | false =>
        have HXn:Hid (vertM (patsOf xs++[x.p]) o.at'=none):=Lh (HX.out.trans (opt_none HbX.out))
        have HK1:=Lh h1
        have e1:((o.kind.toNat:Int) != 1)=true:=by simp;omega
        clear h1
        have HCk:=Lh (check_10 HGd.out HHs.out HNxt.out HDa.out (List.mem_of_getElem? HO.out) (refMet_none HK1.out HXn.out))
        have hcur:=Below.refl w18.heap.size w18
        go_wp2_with fail
        go_ret
        exact⟨ret_int (by rw [HCk.out];rfl),bov HB18.out HB18.out.size hcur⟩
       | true =>
        have HXs:Hid (vertM (patsOf xs++[x.p]) o.at'=some y):=Lh (HX.out.trans (opt_some HbX.out HY.out))
        rcases Classical.em (o.kind.toNat=2) with h2|h2
        ·
         have e1:((o.kind.toNat:Int) != 1)=true:=by simp;omega
         have e2:((o.kind.toNat:Int) == 2)=true:=by simp;omega
         have e3:((o.kind.toNat:Int) == 3)=false:=by simp;omega
         have e4:((o.kind.toNat:Int) == 4)=false:=by simp;omega
         have HK:=Lh h2
         clear h1 h2
         cases hy1:decide (y.kind.toNat=1) with
         | false =>
          have f1:((y.kind.toNat:Int) != 1)=true:=by have:=of_decide_eq_false hy1;simp;omega
          have HF:=Lh hy1
          clear hy1
          have HCk:=Lh (check_10 HGd.out HHs.out HNxt.out HDa.out (List.mem_of_getElem? HO.out) ((refMet_23 (.inl HK.out) HXs.out).trans HF.out))
          have hcur:=Below.refl w18.heap.size w18
          go_wp2_with fail
          go_ret
          exact⟨ret_int (by rw [HCk.out];rfl),bov HB18.out HB18.out.size hcur⟩
         | true =>
          have f1:((y.kind.toNat:Int) != 1)=false:=by have:=of_decide_eq_true hy1;simp;omega
          have HF:=Lh hy1
          clear hy1
          have HN:=Lh (all_step HM.out HO.out ((refMet_23 (.inl HK.out) HXs.out).trans HF.out))
          have hcur:=Below.refl w18.heap.size w18
          go_wp2_with fail
          have HBe:=Lh (bov hb18 hb18.size hcur)
          clear hcur
          go_roundw
          case rel=>exact⟨k+1,hlt,by go_num,HN,HBe.out⟩
          case measure=>simp [intOf];omega
        rcases Classical.em (o.kind.toNat=3) with h3|h3
        ·
         have e1:((o.kind.toNat:Int) != 1)=true:=by simp;omega
         have e2:((o.kind.toNat:Int) == 2)=false:=by simp;omega
         have e3:((o.kind.toNat:Int) == 3)=true:=by simp;omega
         have e4:((o.kind.toNat:Int) == 4)=false:=by simp;omega
         have HK:=Lh h3
         clear h1 h2 h3
         cases hy1:decide (y.kind.toNat=1) with
         | false =>
          have f1:((y.kind.toNat:Int) != 1)=true:=by have:=of_decide_eq_false hy1;simp;omega
          have HF:=Lh hy1
          clear hy1
          have HCk:=Lh (check_10 HGd.out HHs.out HNxt.out HDa.out (List.mem_of_getElem? HO.out) ((refMet_23 (.inr HK.out) HXs.out).trans HF.out))
          have hcur:=Below.refl w18.heap.size w18
          go_wp2_with fail
          go_ret
          exact⟨ret_int (by rw [HCk.out];rfl),bov HB18.out HB18.out.size hcur⟩
         | true =>
          have f1:((y.kind.toNat:Int) != 1)=false:=by have:=of_decide_eq_true hy1;simp;omega
          have HF:=Lh hy1
          clear hy1
          have HN:=Lh (all_step HM.out HO.out ((refMet_23 (.inr HK.out) HXs.out).trans HF.out))
          have hcur:=Below.refl w18.heap.size w18
          go_wp2_with fail
          have HBe:=Lh (bov hb18 hb18.size hcur)
          clear hcur
          go_roundw
          case rel=>exact⟨k+1,hlt,by go_num,HN,HBe.out⟩
          case measure=>simp [intOf];omega
        rcases Classical.em (o.kind.toNat=4) with h4|h4
        ·
         have e1:((o.kind.toNat:Int) != 1)=true:=by simp;omega
         have e2:((o.kind.toNat:Int) == 2)=false:=by simp;omega
         have e3:((o.kind.toNat:Int) == 3)=false:=by simp;omega
         have e4:((o.kind.toNat:Int) == 4)=true:=by simp;omega
         have HR4:=Lh (refMet_4 (L:=(patsOf xs++[x.p])) h4)
         rw [HX.out,HZ2.out,HY.out,HZz.out] at HR4
         clear h1 h2 h3 h4
         cases hi1:isKind (patsOf xs++[x.p]) o.at' 3 with
         | false =>
          rw [hi1] at HR4 HIs1
          clear hi1
          have HCk:=Lh (check_10 HGd.out HHs.out HNxt.out HDa.out (List.mem_of_getElem? HO.out) HR4.out)
          have hcur:=Below.refl w18.heap.size w18
          go_wp2_with (first|(go_at_call 129;(with_reducible refine(HIs1.out _ hcur).mono ?_);rintro e w' ⟨rfl,hb⟩;replace hcur:=bov hcur hcur.size hb;clear hb;have cc0:=(HA18.out.over hcur).k 0 rfl;have scc:=(HA18.out.over hcur).lt;have to4:=(HO18.out.over hcur).k 4 rfl;have to5:=(HO18.out.over hcur).k 5 rfl;have to6:=(HO18.out.over hcur).k 6 rfl;have ty4:=(HY18.out.over hcur).k 4 rfl;have ty5:=(HY18.out.over hcur).k 5 rfl;have ty6:=(HY18.out.over hcur).k 6 rfl;have tz4:=(HZ18.out.over hcur).k 4 rfl;have tz5:=(HZ18.out.over hcur).k 5 rfl;have tz6:=(HZ18.out.over hcur).k 6 rfl;have sto:=(HO18.out.over hcur).lt;have sty:=(HY18.out.over hcur).lt;have stz:=(HZ18.out.over hcur).lt))
          go_ret
          exact⟨ret_int (by rw [HCk.out];rfl),bov HB18.out HB18.out.size hcur⟩
         | true =>
          rw [hi1] at HR4 HIs1
          clear hi1
          cases hi2:isKind (patsOf xs++[x.p]) o.to 3 with
          | false =>
           rw [hi2] at HR4 HIs2
           clear hi2
           have HCk:=Lh (check_10 HGd.out HHs.out HNxt.out HDa.out (List.mem_of_getElem? HO.out) HR4.out)
           have hcur:=Below.refl w18.heap.size w18
           go_wp2_with (first|(go_at_call 129;(with_reducible refine(HIs1.out _ hcur).mono ?_);rintro e w' ⟨rfl,hb⟩;replace hcur:=bov hcur hcur.size hb;clear hb;have cc0:=(HA18.out.over hcur).k 0 rfl;have scc:=(HA18.out.over hcur).lt;have to4:=(HO18.out.over hcur).k 4 rfl;have to5:=(HO18.out.over hcur).k 5 rfl;have to6:=(HO18.out.over hcur).k 6 rfl;have ty4:=(HY18.out.over hcur).k 4 rfl;have ty5:=(HY18.out.over hcur).k 5 rfl;have ty6:=(HY18.out.over hcur).k 6 rfl;have tz4:=(HZ18.out.over hcur).k 4 rfl;have tz5:=(HZ18.out.over hcur).k 5 rfl;have tz6:=(HZ18.out.over hcur).k 6 rfl;have sto:=(HO18.out.over hcur).lt;have sty:=(HY18.out.over hcur).lt;have stz:=(HZ18.out.over hcur).lt)|(go_at_call 129;(with_reducible refine(HIs2.out _ hcur).mono ?_);rintro e w' ⟨rfl,hb⟩;replace hcur:=bov hcur hcur.size hb;clear hb;have cc0:=(HA18.out.over hcur).k 0 rfl;have scc:=(HA18.out.over hcur).lt;have to4:=(HO18.out.over hcur).k 4 rfl;have to5:=(HO18.out.over hcur).k 5 rfl;have to6:=(HO18.out.over hcur).k 6 rfl;have ty4:=(HY18.out.over hcur).k 4 rfl;have ty5:=(HY18.out.over hcur).k 5 rfl;have ty6:=(HY18.out.over hcur).k 6 rfl;have tz4:=(HZ18.out.over hcur).k 4 rfl;have tz5:=(HZ18.out.over hcur).k 5 rfl;have tz6:=(HZ18.out.over hcur).k 6 rfl;have sto:=(HO18.out.over hcur).lt;have sty:=(HY18.out.over hcur).lt;have stz:=(HZ18.out.over hcur).lt))
           go_ret
           exact⟨ret_int (by rw [HCk.out];rfl),bov HB18.out HB18.out.size hcur⟩
          | true =>
           rw [hi2] at HR4 HIs2
           clear hi2
           have en:=neq_vid y.file z.file (!decide (y.file=z.file)) rfl
           unfold vidV at en
           cases hf:decide (y.file=z.file) with
           | false =>
            rw [hf] at HR4 en
            clear hf
            have HCk:=Lh (check_10 HGd.out HHs.out HNxt.out HDa.out (List.mem_of_getElem? HO.out) HR4.out)
            have hcur:=Below.refl w18.heap.size w18
            go_wp2_with (first|(go_at_call 129;(with_reducible refine(HIs1.out _ hcur).mono ?_);rintro e w' ⟨rfl,hb⟩;replace hcur:=bov hcur hcur.size hb;clear hb;have cc0:=(HA18.out.over hcur).k 0 rfl;have scc:=(HA18.out.over hcur).lt;have to4:=(HO18.out.over hcur).k 4 rfl;have to5:=(HO18.out.over hcur).k 5 rfl;have to6:=(HO18.out.over hcur).k 6 rfl;have ty4:=(HY18.out.over hcur).k 4 rfl;have ty5:=(HY18.out.over hcur).k 5 rfl;have ty6:=(HY18.out.over hcur).k 6 rfl;have tz4:=(HZ18.out.over hcur).k 4 rfl;have tz5:=(HZ18.out.over hcur).k 5 rfl;have tz6:=(HZ18.out.over hcur).k 6 rfl;have sto:=(HO18.out.over hcur).lt;have sty:=(HY18.out.over hcur).lt;have stz:=(HZ18.out.over hcur).lt)|(go_at_call 129;(with_reducible refine(HIs2.out _ hcur).mono ?_);rintro e w' ⟨rfl,hb⟩;replace hcur:=bov hcur hcur.size hb;clear hb;have cc0:=(HA18.out.over hcur).k 0 rfl;have scc:=(HA18.out.over hcur).lt;have to4:=(HO18.out.over hcur).k 4 rfl;have to5:=(HO18.out.over hcur).k 5 rfl;have to6:=(HO18.out.over hcur).k 6 rfl;have ty4:=(HY18.out.over hcur).k 4 rfl;have ty5:=(HY18.out.over hcur).k 5 rfl;have ty6:=(HY18.out.over hcur).k 6 rfl;have tz4:=(HZ18.out.over hcur).k 4 rfl;have tz5:=(HZ18.out.over hcur).k 5 rfl;have tz6:=(HZ18.out.over hcur).k 6 rfl;have sto:=(HO18.out.over hcur).lt;have sty:=(HY18.out.over hcur).lt;have stz:=(HZ18.out.over hcur).lt))
            go_ret
            exact⟨ret_int (by rw [HCk.out];rfl),bov HB18.out HB18.out.size hcur⟩
           | true =>
            rw [hf] at HR4 en
            clear hf
            have HN:=Lh (all_step HM.out HO.out HR4.out)
            have hcur:=Below.refl w18.heap.size w18
            go_wp2_with (first|(go_at_call 129;(with_reducible refine(HIs1.out _ hcur).mono ?_);rintro e w' ⟨rfl,hb⟩;replace hcur:=bov hcur hcur.size hb;clear hb;have cc0:=(HA18.out.over hcur).k 0 rfl;have scc:=(HA18.out.over hcur).lt;have to4:=(HO18.out.over hcur).k 4 rfl;have to5:=(HO18.out.over hcur).k 5 rfl;have to6:=(HO18.out.over hcur).k 6 rfl;have ty4:=(HY18.out.over hcur).k 4 rfl;have ty5:=(HY18.out.over hcur).k 5 rfl;have ty6:=(HY18.out.over hcur).k 6 rfl;have tz4:=(HZ18.out.over hcur).k 4 rfl;have tz5:=(HZ18.out.over hcur).k 5 rfl;have tz6:=(HZ18.out.over hcur).k 6 rfl;have sto:=(HO18.out.over hcur).lt;have sty:=(HY18.out.over hcur).lt;have stz:=(HZ18.out.over hcur).lt)|(go_at_call 129;(with_reducible refine(HIs2.out _ hcur).mono ?_);rintro e w' ⟨rfl,hb⟩;replace hcur:=bov hcur hcur.size hb;clear hb;have cc0:=(HA18.out.over hcur).k 0 rfl;have scc:=(HA18.out.over hcur).lt;have to4:=(HO18.out.over hcur).k 4 rfl;have to5:=(HO18.out.over hcur).k 5 rfl;have to6:=(HO18.out.over hcur).k 6 rfl;have ty4:=(HY18.out.over hcur).k 4 rfl;have ty5:=(HY18.out.over hcur).k 5 rfl;have ty6:=(HY18.out.over hcur).k 6 rfl;have tz4:=(HZ18.out.over hcur).k 4 rfl;have tz5:=(HZ18.out.over hcur).k 5 rfl;have tz6:=(HZ18.out.over hcur).k 6 rfl;have sto:=(HO18.out.over hcur).lt;have sty:=(HY18.out.over hcur).lt;have stz:=(HZ18.out.over hcur).lt))
            have HBe:=Lh (bov hb18 hb18.size hcur)
            clear hcur
            go_roundw
            case rel=>exact⟨k+1,hlt,by go_num,HN,HBe.out⟩
            case measure=>simp [intOf];omega
        have e1:((o.kind.toNat:Int) != 1)=true:=by simp;omega
        have e2:((o.kind.toNat:Int) == 2)=false:=by simp;omega
        have e3:((o.kind.toNat:Int) == 3)=false:=by simp;omega
        have e4:((o.kind.toNat:Int) == 4)=false:=by simp;omega
        have HE:=Lh (refMet_else h2 h3 h4 HXs.out)
        clear h1 h2 h3 h4
        have HN:=Lh (all_step HM.out HO.out HE.out)
        have hcur:=Below.refl w18.heap.size w18
        go_wp2_with fail
        have HBe:=Lh (bov hb18 hb18.size hcur)
        clear hcur
        go_roundw
        case rel=>exact⟨k+1,hlt,by go_num,HN,HBe.out⟩
        case measure=>simp [intOf];omega
     ·
      obtain rfl:k=x.p.ops.length:=by omega
      have hn:=HM.out
      rw [List.take_length] at hn
      have HCk:=Lh (check_0 HGd.out HHs.out HNxt.out HDa.out hn)
      clear hn HM hlt
      go_wp2_with fail
      go_ret
      exact⟨ret_int (by rw [HCk.out];rfl),HBq.out⟩
end Go.Proofs.YtllcipobiengiaaGreat
namespace Go.Proofs.YtllcipobiengiaaGreat
open Go Go.RowKit

theorem rowGraph:RowT Tryz.prog 35 1:=rowT_of Tryz.underlying35 rfl (by kernel_rfl)
def apX(xs:List LaidP)(x:LaidP):List LaidP:=if checkM (patsOf xs) x.p=0 then xs++[x] else xs
theorem apX_of(xs:List LaidP)(x:LaidP):patsOf (apX xs x)=applyM (patsOf xs) x.p:=by
 unfold apX applyM
 split
 ·
  unfold patsOf;rw [List.map_append];rfl
 ·
  rfl
theorem apX_yes{xs:List LaidP}{x:LaidP}{c:Nat}(h:checkM (patsOf xs) x.p=c)(hc:c=0):apX xs x=xs++[x]:=by unfold apX;rw [h,if_pos hc]
theorem apX_no{xs:List LaidP}{x:LaidP}{c:Nat}(h:checkM (patsOf xs) x.p=c)(hc:¬ c=0):apX xs x=xs:=by unfold apX;rw [h,if_neg hc]
def RApRes(w:World)(gv:Value)(xs:List LaidP)(x:LaidP)(e:Ending)(w':World):Prop:=∃ v,e=.returned (.tuple #[rgV v,.int .i64 ((checkM (patsOf xs) x.p:Nat):Int)])∧Pats w' v (apX xs x)∧(v=gv∨∀ k,v.ownBlock=some k→w.heap.size≤k)∧Below w.heap.size w w'
theorem rap_mk{w w':World}{gv:Value}{xs:List LaidP}{x:LaidP}{v:Value}{c:Nat}(hc:checkM (patsOf xs) x.p=c)(hp:Pats w' v (apX xs x))(hv:v=gv∨∀ k,v.ownBlock=some k→w.heap.size≤k)(hb:Below w.heap.size w w'):RApRes w gv xs x (.returned (.tuple #[rgV v,.int .i64 c])) w':=by subst hc;exact⟨v,rfl,hp,hv,hb⟩
attribute [local irreducible] checkM apX goodP hasM vecM
set_option maxHeartbeats 16000000 in
set_option maxRecDepth 100000 in
theorem rapply20_any(gv:Value)(xs:List LaidP)(x:LaidP)(w:World)(hv:Pats w gv xs)(hp:PatOk w x)(hn:xs.length≤300)(ho:OrdL (patsOf xs))(hw:WfG (patsOf xs))(hl:∀ y∈xs,y.p.ops.length≤260)(hlx:x.p.ops.length≤260)(hdx:x.p.deps.length≤40000)(hz:∀ o∈x.p.ops,o.text.size≤maxLen) :
  Calls Tryz.prog 39 #[rgV gv,patV x.p.id x.dv x.ov] w (RApRes w gv xs x):=by
 have HV:=Lh hv
 have HPx:=Lh hp
 have HCk:=Lh (fun W gv' hv' hp'=>rcheck20_any gv' xs x W hv' hp' hn ho hw hl hlx hdx hz)
 obtain⟨a,cap,rfl,h1,h2,hc⟩:=hv.1.at encPat_len
 unfold maxLen at h2
 obtain⟨ad,capd,hdv,d1,d2,hcd⟩:=hp.1.at encPid_len
 obtain⟨ao,capo,hov,o1,o2,hco⟩:=hp.2.at encOp_len
 unfold maxLen at d2 o2
 clear hv hp ho hw hl hc hcd hco hz
 have HDV:=Lh hdv
 have HOV:=Lh hov
 unfold rgV patV
 rw [hdv,hov]
 clear hdv hov
 have HG:=Lh (((anw w #[.slice a xs.length cap] 35).alloc (.cells #[.int .u8 x.p.id.author.toNat,.int .u16 x.p.id.seq.toNat,.slice ad x.p.deps.length capd,.slice ao x.p.ops.length capo] 61)).alloc (.cells #[.slice none 0 0] 35))
 have HP:=Lh ((an2 w (.cells #[.slice a xs.length cap] 35) #[.int .u8 x.p.id.author.toNat,.int .u16 x.p.id.seq.toNat,.slice ad x.p.deps.length capd,.slice ao x.p.ops.length capo] 61).alloc (.cells #[.slice none 0 0] 35))
 have HR:=Lh (arr_new3 w (.cells #[.slice a xs.length cap] 35) (.cells #[.int .u8 x.p.id.author.toNat,.int .u16 x.p.id.seq.toNat,.slice ad x.p.deps.length capd,.slice ao x.p.ops.length capo] 61) #[.slice none 0 0] 35)
 have HB:=Lh (((bnew (w:=w) (.cells #[.slice a xs.length cap] 35)).alloc (by simp) (.cells #[.int .u8 x.p.id.author.toNat,.int .u16 x.p.id.seq.toNat,.slice ad x.p.deps.length capd,.slice ao x.p.ops.length capo] 61)).alloc (by simp;omega) (.cells #[.slice none 0 0] 35))
 go_enter Tryz.func39,Tryz.ntmps39
 go_upto_region 1 with(fail)
 generalize hw0:((w.alloc (.cells #[.slice a xs.length cap] 35)).alloc (.cells #[.int .u8 x.p.id.author.toNat,.int .u16 x.p.id.seq.toNat,.slice ad x.p.deps.length capd,.slice ao x.p.ops.length capo] 61)).alloc (.cells #[.slice none 0 0] 35)=w0 at *
 clear hw0
 have g0:=HG.out.k 0 rfl
 have sg:=HG.out.lt
 have p0:=HP.out.k 0 rfl
 have p1:=HP.out.k 1 rfl
 have p2:=HP.out.k 2 rfl
 have p3:=HP.out.k 3 rfl
 have sp:=HP.out.lt
 have HCall:Hid (Calls Tryz.prog 82 #[.agg #[.slice a xs.length cap],.agg #[.int .u8 x.p.id.author.toNat,.int .u16 x.p.id.seq.toNat,.slice ad x.p.deps.length capd,.slice ao x.p.ops.length capo]] w0 fun e w'=>e=.returned (.int .i64 ((checkM (patsOf xs) x.p:Nat):Int))∧Below w0.heap.size w0 w'):=Lh (by
  have:=HCk.out w0 _ (HV.out.over HB.out) ⟨HPx.out.1.over HB.out,HPx.out.2.over HB.out⟩
  unfold rgV patV at this
  rw [HDV.out,HOV.out] at this
  exact this)
 obtain⟨c,hc⟩:∃ c,checkM (patsOf xs) x.p=c:=⟨_,rfl⟩
 rw [hc] at HCall
 have HC:=Lh hc
 clear hc
 go_upto_region 2 with(first|(go_at_call 82;(with_reducible refine HCall.out.mono ?_);rintro e w1 ⟨rfl,hb1⟩))
 have HB1:=Lh (bov HB.out HB.out.size hb1)
 have HG1:=Lh (HG.out.over hb1)
 have HP1:=Lh (HP.out.over hb1)
 have HR1:=Lh (HR.out.over hb1)
 clear g0 sg p0 p1 p2 p3 sp hb1 HCall HG HP HR
 have HS1:Hid (w.heap.size+1+1<w1.heap.size):=Lh HR1.out.lt
 have g0:=HG1.out.k 0 rfl
 have sg:=HG1.out.lt
 have r0:=HR1.out.k 0 rfl
 have sr:=HR1.out.lt
 have rf:=HR1.out.free 0
 have HV1:=Lh (HV.out.over HB1.out)
 by_cases hc0:c=0
 rotate_left
 ·
  have e2:((c:Int) != 0)=true:=by simp;omega
  have HE:=Lh (apX_no HC.out hc0)
  clear hc0
  go_wp2_with fail
  have HBe:=Lh (below_set HB1.out (show w.heap.size≤w.heap.size+1+1 by omega) (.slice a xs.length cap))
  exact bodyPost_ret (v:=.tuple #[rgV (.slice a xs.length cap),.int .i64 c]) (rasl rowGraph rfl (HR1.out.set 0 _) rfl rfl rfl) rfl (rap_mk HC.out (by rw [HE.out];exact HV.out.over HBe.out) (.inl rfl) HBe.out)
 have e2:((c:Int) != 0)=false:=by simp;omega
 have HE:=Lh (apX_yes HC.out hc0)
 have HC0:=Lh hc0
 clear hc0
 have p0:=HP1.out.k 0 rfl
 have p1:=HP1.out.k 1 rfl
 have p2:=HP1.out.k 2 rfl
 have p3:=HP1.out.k 3 rfl
 have sp:=HP1.out.lt
 have HXS:Hid (Row w1 (.slice a xs.length cap) xs.length 4 (xs.flatMap encPat)):=Lh HV1.out.1
 have HOne:=Lh (onePats HV1.out.2)
 have HEP:Hid (encPat x=[.int .u8 x.p.id.author.toNat,.int .u16 x.p.id.seq.toNat,.slice ad x.p.deps.length capd,.slice ao x.p.ops.length capo]):=Lh (by unfold encPat;rw [HDV.out,HOV.out])
 have hN1:0+xs.length≤maxLen:=by unfold maxLen;omega
 have hN1b:(0+xs.length)*56≤140737488355328:=by omega
 have hN2:0+xs.length+1≤1099511627776:=by omega
 have HNil:Hid (w1.ownsRow w1.heap.size 61 4 (.slice none 0 0) 0 []):=Lh (World.ownsRow_nil w1 _ _ _)
 go_upto_region 6 with(first|(refine wpList_append_row slPat rfl _ _ rfl w1.heap.size (.slice none 0 0) 0 [] HNil.out rfl (.slice a xs.length cap) xs.length (xs.flatMap encPat) HXS.out rfl HOne.out hN1 hN1b (Nat.le_refl _) ?_;intro v5 w5 ho5 hg5;have HO5:=Lh ho5;have HB5:=Lh (bgr (Below.refl w1.heap.size w1) (Nat.le_refl _) (show w1.ownsRow w1.heap.size 61 4 (.slice none 0 0) 0 [] from HNil.out) hg5);clear ho5 hg5))
 have HP5:=Lh (HP1.out.over HB5.out)
 have hS5:=HB5.out.size
 clear g0 sg p0 p1 p2 p3 sp r0 sr rf
 have p0:=HP5.out.k 0 rfl
 have p1:=HP5.out.k 1 rfl
 have p2:=HP5.out.k 2 rfl
 have p3:=HP5.out.k 3 rfl
 have sp:=HP5.out.lt
 go_upto_region 7 with((at_builtin;refine apD slPat rfl _ _ rfl w1.heap.size _ _ (drf _) 1 _ _ _ HO5.out rfl rfl rfl rfl hN2 (by decide) hS5 ?_;intro v6 w6 ho6 hg6))
 have HB6:=Lh (bgr HB5.out HB5.out.size HO5.out hg6)
 have HR6:=Lh (HR1.out.over HB6.out)
 obtain⟨b6,l6,c6,rfl⟩:=own_slice ho6
 have HO6:=Lh ho6
 clear ho6 hg6 p0 p1 p2 p3 sp
 have r0:=HR6.out.k 0 rfl
 have sr:=HR6.out.lt
 have rf:=HR6.out.free 0
 go_wp2_with fail
 have HB7:=Lh (below_set (bov HB1.out HB1.out.size HB6.out) (show w.heap.size≤w.heap.size+1+1 by omega) (.slice b6 l6 c6))
 have hne:(Value.slice b6 l6 c6).ownBlock≠some (w.heap.size+1+1):=fun q=>by
  have h1:=(HO6.out.lt _ q).1
  have h2:=HS1.out
  omega
 have HPx7:Hid (PatOk w x):=HPx
 refine bodyPost_ret (v:=.tuple #[rgV (.slice b6 l6 c6),.int .i64 ((0:Nat):Int)]) (rasl rowGraph rfl (HR6.out.set 0 _) rfl rfl rfl) rfl (rap_mk (HC.out.trans HC0.out) ?_ (.inr fun k q=>by have h1:=(HO6.out.lt _ q).1;have h2:=HS1.out;omega) HB7.out)
 rw [HE.out]
 refine⟨pat_row (own_set HO6.out hne _ 0) HEP.out,fun y hy => ?_⟩
 rcases List.mem_append.1 hy with hy|hy
 ·
  exact⟨(HV.out.2 y hy).1.over HB7.out,(HV.out.2 y hy).2.over HB7.out⟩
 ·
  rw [List.mem_singleton.1 hy];exact⟨HPx.out.1.over HB7.out,HPx.out.2.over HB7.out⟩

theorem row_set{w:World}{v:Value}{n sz g j:Nat}{cs:List Value}{u:Value}(h:Row w v n sz cs)(hg:v.ownBlock≠some g):Row (w.setCell ⟨g,j,none⟩ u) v n sz cs:=by
 refine h.keep (by simp) fun b hb _ => ?_
 have hne:g≠b:=fun q=>hg (by rw [hb,q])
 unfold World.setCell
 split <;> simp [Array.getElem?_modify,hne]
def modX(xs:List LaidP):List LaidP:=xs.foldl apX []
theorem modX_mem:∀(xs out:List LaidP) (y:LaidP),y∈xs.foldl apX out→y∈out∨y∈xs
 | [],out,y,h=>.inl h
 | x :: xs,out,y,h=>by
  rcases modX_mem xs (apX out x) y h with h1|h1
  ·
   unfold apX at h1
   split at h1
   ·
    rcases List.mem_append.1 h1 with h2|h2
    ·
     exact .inl h2
    ·
     exact .inr (by rw [List.mem_singleton.1 h2];exact List.mem_cons_self ..)
   ·
    exact .inl h1
  ·
   exact .inr (List.mem_cons_of_mem _ h1)
theorem modX_len:∀(xs out:List LaidP),(xs.foldl apX out).length≤out.length+xs.length
 | [],out=>by simp
 | x :: xs,out=>by
  have h1:=modX_len xs (apX out x)
  have h2:(apX out x).length≤out.length+1:=by unfold apX;split <;> simp
  rw [List.foldl_cons,List.length_cons];omega
theorem modX_pats(xs:List LaidP):patsOf (modX xs)=buildM (patsOf xs):=by
 have:∀(xs out:List LaidP),patsOf (xs.foldl apX out)=(patsOf xs).foldl applyM (patsOf out):=by
  intro xs
  induction xs with
  | nil=>intro out;rfl
  | cons x xs ih=>intro out;rw [List.foldl_cons,ih,apX_of];rfl
 exact this xs []
theorem modX_succ{xs:List LaidP}{k:Nat}{x:LaidP}(h:xs[k]? = some x):modX (xs.take (k+1))=apX (modX (xs.take k)) x:=by
 unfold modX;rw [take_succ' h,List.foldl_append];rfl
def RMdRes(w:World)(xs:List LaidP)(e:Ending)(w':World):Prop:=∃ v,e=.returned (rgV v)∧Pats w' v (modX xs)∧Below w.heap.size w w'
def MdRel(w:World)(xs:List LaidP)(v4:Value)(wr:World):Prop:=∃(k:Nat) (a:Option Addr) (n c:Nat),k≤xs.length∧v4=.int .i64 k∧Hid (GRow encPat 4 wr (.slice a n c) (modX (xs.take k)))∧Hid (∀ g,w.heap.size≤g→g≤w.heap.size+1→(Value.slice a n c).ownBlock≠some g)∧Hid (Arr wr (w.heap.size+1) [.slice a n c])∧Hid (Arr wr w.heap.size [.slice none 0 0])∧Below w.heap.size w wr
attribute [local irreducible] modX
set_option maxHeartbeats 16000000 in
set_option maxRecDepth 100000 in
theorem rmodel_any(v:Value)(xs:List LaidP)(w:World)(hv:Pats w v xs)(hn:xs.length≤300)(hl:∀ y∈xs,y.p.ops.length≤260)(hd:∀ y∈xs,y.p.deps.length≤40000)(hz:∀ y∈xs,∀ o∈y.p.ops,o.text.size≤maxLen) :
  Calls Tryz.prog 13 #[v] w (RMdRes w xs):=by
 have HV:=Lh hv
 have HL:=Lh hl
 have HD:=Lh hd
 have HZ:=Lh hz
 obtain⟨a,cap,rfl,h1,h2,hc⟩:=hv.1.at encPat_len
 unfold maxLen at h2
 have HC:=Lh hc
 clear hv hl hd hz hc
 have HR:=Lh ((anw w #[.slice none 0 0] 35).alloc (.cells #[.slice none 0 0] 35))
 have HX:=Lh (an2 w (.cells #[.slice none 0 0] 35) #[.slice none 0 0] 35)
 have HB:=Lh ((bnew (w:=w) (.cells #[.slice none 0 0] 35)).alloc (by simp) (.cells #[.slice none 0 0] 35))
 go_enter Tryz.func13,Tryz.ntmps13
 go_upto_region 2 with(fail)
 generalize hw0:(w.alloc (.cells #[.slice none 0 0] 35)).alloc (.cells #[.slice none 0 0] 35)=w0 at *
 clear hw0
 go_wp2_with fail
 go_loopw [4] (fun v4 wr=>MdRel w xs v4 wr) (fun v4 _=>xs.length - (intOf v4).toNat)
 case atStart=>exact⟨0,none,0,0,Nat.zero_le _,rfl,(by show GRow _ _ _ _ _;unfold modX;exact row_nil _ _),(by show ∀ g,_;exact fun g _ _ q=>by cases q),HX,HR,HB.out⟩
 case round =>
  obtain⟨k,a6,n6,c6,hk,rfl,HM,HN6,HX6,HR6,hbl⟩:=hrel
  rename World=>wr
  have x0:=HX6.out.k 0 rfl
  have sx:=HX6.out.lt
  by_cases hlt:k<xs.length
  ·
   obtain⟨bo,off,rfl,sb,hcb⟩:=HC.out.resolve_left (by omega)
   obtain⟨x,hx⟩:=gol hlt
   have HXk:=Lh hx
   have hm:x∈xs:=List.mem_of_getElem? hx
   have hp:=HV.out.2 x hm
   obtain⟨ad,capd,hdv,d1,d2,hcd⟩:=hp.1.at encPid_len
   obtain⟨ao,capo,hov,o1,o2,hco⟩:=hp.2.at encOp_len
   have HB1:=Lh hbl
   have HCall:Hid (∀ W,Below wr.heap.size wr W→Calls Tryz.prog 39 #[.agg #[.slice a6 n6 c6],.agg #[.int .u8 x.p.id.author.toNat,.int .u16 x.p.id.seq.toNat,.slice ad x.p.deps.length capd,.slice ao x.p.ops.length capo]] W fun e w'=>∃ a9 n9 c9,e=.returned (.tuple #[.agg #[.slice a9 n9 c9],.int .i64 ((checkM (patsOf (modX (xs.take k))) x.p:Nat):Int)])∧GRow encPat 4 w' (.slice a9 n9 c9) (apX (modX (xs.take k)) x)∧(∀ g,w.heap.size≤g→g≤w.heap.size+1→(Value.slice a9 n9 c9).ownBlock≠some g)∧Below W.heap.size W w'):=Lh fun W hb=>by
    have hBW:=bov HB1.out HB1.out.size hb
    have hmm:∀ y∈modX (xs.take k),y∈xs:=fun y hy=>by
     unfold modX at hy
     rcases modX_mem _ _ y hy with h|h
     ·
      cases h
     ·
      exact List.mem_of_mem_take h
    have hml:(modX (xs.take k)).length≤300:=by
     unfold modX
     have h3:=modX_len (xs.take k) []
     rw [List.length_take,List.length_nil] at h3;omega
    have:=rapply20_any (.slice a6 n6 c6) (modX (xs.take k)) x W ⟨HM.out.over hb,fun y hy=>⟨(HV.out.2 y (hmm y hy)).1.over hBW,(HV.out.2 y (hmm y hy)).2.over hBW⟩⟩ ⟨hp.1.over hBW,hp.2.over hBW⟩ hml (by rw [modX_pats];exact ord_build _) (by rw [modX_pats];exact wf_build _) (fun y hy=>HL.out y (hmm y hy)) (HL.out x hm) (HD.out x hm) (HZ.out x hm)
    unfold rgV patV at this
    rw [hdv,hov] at this
    refine this.mono ?_
    rintro e w' ⟨v9,rfl,hp9,hv9,hb9⟩
    obtain⟨a9,c9,rfl,_,_,_⟩:=hp9.1.at encPat_len
    refine⟨a9,_,c9,rfl,hp9.1,?_,hb9⟩
    rcases hv9 with h|h
    ·
     rw [h];exact HN6.out
    ·
     intro g hg1 hg2 q
     have h3:=h _ q
     have h4:=HX6.out.lt
     have h5:=hb.size
     omega
   have HS:=Lh (modX_succ hx)
   have HRx:=Lh (hcb k x hx wr hbl)
   unfold maxLen at d2 o2
   have q0:wr.cell? ⟨bo,off+k*4,none⟩=some (.int .u8 x.p.id.author.toNat):=(HRx.out).2 0 _ rfl
   have q1:wr.cell? ⟨bo,off+k*4+1,none⟩=some (.int .u16 x.p.id.seq.toNat):=(HRx.out).2 1 _ rfl
   have q2:wr.cell? ⟨bo,off+k*4+2,none⟩=some (.slice ad x.p.deps.length capd):=by rw [← hdv];exact(HRx.out).2 2 _ rfl
   have q3:wr.cell? ⟨bo,off+k*4+3,none⟩=some (.slice ao x.p.ops.length capo):=by rw [← hov];exact(HRx.out).2 3 _ rfl
   have sx:=HRx.out.1
   clear hcb hx hm hp hcd hco hdv hov
   have hbne:¬ bo=w.heap.size+1:=by omega
   go_upto_region 5 with(fail)
   have hcur:World.grownBy wr wr.drew (some (w.heap.size+1)):=⟨rfl,rfl,rfl,Nat.le_refl _,fun _ _ _=>rfl⟩
   refine wlex (C:=IsKept wr (some (w.heap.size+1))) 10 [0] (by kernel_rfl) (by kernel_rfl) (isKept_of hcur) ?_
   simp only [Tsc,Tz,Dsc,Dz]
   repeat(first|(refine lxs rfl rfl ?_;simp only [Act.put,Sib,Scs,Scz])|(refine lxo rfl ?_;go_big_quiet_step (fail);refine wpQuiet_nil ?_)|(refine lxl rfl ?_;go_wp2_with (first|(go_at_call 39;(with_reducible refine(HCall.out _ (Below.refl _ _).drew).mono ?_);rintro e w9 ⟨a9,n9,c9,rfl,hp9,hn9,hb⟩;have HP9:=Lh hp9;have HNe:=Lh hn9;have HBk:Hid (Below wr.heap.size wr w9):=Lh (bov (Below.refl _ _).drew (Nat.le_refl _) hb);have HX9:=Lh (HX6.out.over HBk.out);have HR9:=Lh (HR6.out.over HBk.out);have HB9:=Lh (bov HB1.out HB1.out.size HBk.out);replace hcur:=gtr hcur (grown_of_below hb);clear hb hp9 hn9;have y0:=HX9.out.k 0 rfl;have sy:=HX9.out.lt;have yf:=HX9.out.free 0));refine⟨isKept_of (by first|exact hcur|exact only_alloc hcur _|exact gtr hcur (gsc _ _ _)|exact gtr (gtr hcur (gsc _ _ _)) (gsc _ _ _)),?_⟩))
   refine lxe ?_
   go_wp2_with fail
   go_roundw
   case rel=>exact⟨k+1,a9,n9,c9,hlt,by go_num,(by show GRow _ _ _ _ _;rw [HS.out];exact row_set HP9.out (HNe.out _ (by omega) (Nat.le_refl _))),HNe,Lh (HX9.out.set 0 _),Lh (HR9.out.set_other (by simp) _),below_set HB9.out (by omega) _⟩
   case measure=>simp [intOf];omega
  ·
   obtain rfl:k=xs.length:=by omega
   have HE:=HM.out
   rw [List.take_length] at HE
   have HE2:=Lh HE
   clear HE HM
   have r0:=HR6.out.k 0 rfl
   have sr:=HR6.out.lt
   have rf:=HR6.out.free 0
   go_wp2_with fail
   refine bodyPost_ret (v:=rgV (.slice a6 n6 c6)) (results_arr rowGraph rfl (HR6.out.set 0 _) rfl rfl) rfl ?_
   have HB7:=below_set hbl (Nat.le_refl _) (.slice a6 n6 c6)
   refine⟨_,rfl,⟨row_set HE2.out ?_,fun y hy => ?_⟩,HB7⟩
   ·
    exact HN6.out _ (Nat.le_refl _) (by omega)
   ·
    have hm:y∈xs:=by
     unfold modX at hy
     rcases modX_mem _ _ y hy with h|h
     ·
      cases h
     ·
      exact h
    exact⟨(HV.out.2 y hm).1.over HB7,(HV.out.2 y hm).2.over HB7⟩
end Go.Proofs.YtllcipobiengiaaGreat
