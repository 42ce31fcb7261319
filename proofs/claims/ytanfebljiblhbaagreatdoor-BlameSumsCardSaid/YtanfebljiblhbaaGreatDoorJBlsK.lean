/- BlameSums. The card of BlameSums closed: for every input the law returns true and leaves its arguments as they were. Of the listed tables the walk needs the powers of ten. -/
import Derived.Test.YtanfebljiblhbaaGreatDoorJWb
import Derived.Test.YtanfebljiblhbaaGreatDoorJCard
import Derived.Stop.LaidErr
set_option linter.unusedVariables false
set_option linter.unusedSimpArgs false
namespace Go.Proofs.YtanfebljiblhbaaGreatDoor
open Go Go.RowKit

attribute [local irreducible] idsM filesM linesM relM vertsM edgesM fewL modX lnSeen lnOdd allM toldL byM allN byTot cntN optV vertM aliveX
set_option maxHeartbeats 40000000 in
set_option maxRecDepth 100000 in
theorem bls_any(v:Value)(ps:List LaidP)(w:World)(hv:Pats w v ps)(hz:∀ x∈ps,∀ o∈x.p.ops,o.text.size≤maxLen)(ht:Tab w)
  (hwk:∀ W,Tab W→Calls Tryz.prog 10 #[] W fun e w'=>e=.returned (.bool true)∧Below W.heap.size W w') :
  Calls Tryz.prog 8 #[v] w fun e w'=>e=.returned (.bool true)∧Below w.heap.size w w':=by
 have hfew:=Lib.hid (few20_any v ps 12 (by omega) w hv hz)
 have HV:=Lib.hid hv
 have HWk:=Lib.hid hwk
 have HT:=Lib.hid ht
 clear hwk ht
 cases hf:fewL 12 (ps.map (·.p)) with
 | false =>
  rw [hf] at hfew
  clear hv hz hf
  go_enter Tryz.func8,Tryz.ntmps8
  go_wp2_with fail
  refine hfew.out.mono ?_
  rintro e w1 ⟨rfl,hb1⟩
  have HB1:=Lib.hid hb1
  have HT1:=Lib.hid (HT.out.over hb1)
  clear hb1 hfew
  unfold b01
  go_wp2_with fail
  refine(HWk.out _ HT1.out).mono ?_
  rintro e w2 ⟨rfl,hb2⟩
  have HB2:=Lib.hid (below_over HB1.out HB1.out.size hb2)
  clear hb2
  go_wp2_with fail
  go_ret
  exact⟨rfl,HB2.out⟩
 | true =>
  rw [hf] at hfew
  have HF:=Lib.hid hf
  clear hv hz hf
  go_enter Tryz.func8,Tryz.ntmps8
  go_wp2_with fail
  refine hfew.out.mono ?_
  rintro e w2 ⟨rfl,hb1⟩
  have HB2:=Lib.hid hb1
  clear hb1 hfew
  unfold b01
  go_wp2_with fail
  refine(build_any v ps 12 (by omega) _ (HV.out.over HB2.out) HF.out).mono ?_
  rintro e w3 ⟨b,bv,be,n,hn,rfl,hgr⟩
  have hwf:=wf_build (ps.map (·.p))
  have HMP:Hid (patsOf (modX ps)=buildM (ps.map (·.p))):=Lib.hid (modX_pats ps)
  have HI1:=Lib.hid (few_ids HF.out)
  have HE1:=Lib.hid (few_edges HF.out)
  rw [HMP.out] at HI1 HE1
  generalize buildM (ps.map (·.p))=LL at *
  obtain⟨_,_,_,hG,hb3⟩:=hgr
  have HGI:Hid (GrIs w3 b LL):=Lib.hid ⟨bv,be,n,hG⟩
  have HW:=Lib.hid hwf
  have HB3:=Lib.hid (below_over HB2.out HB2.out.size hb3)
  have HT3:=Lib.hid (HT.out.over HB3.out)
  have HI:Hid ((idsM LL).length≤65536):=Lib.hid (by have:=HI1.out;omega)
  have HE:Hid ((edgesM LL).length≤1000000):=Lib.hid (by have:=HE1.out;omega)
  have haf:(allM LL).length≤840:=all_few (by have:=HI1.out;omega)
  clear hG hb3 hn hwf HV HMP HF HT HI1 HE1
  go_wp2_with fail
  refine(nall_any b LL w3 HGI.out HW.out (by have:=HI.out;omega) HT3.out).mono ?_
  rintro e w4 ⟨v4,rfl,⟨xs4,hx4,ho4,hat4⟩,hb4⟩
  obtain⟨p4,c4,e4,z1,z2,hc4⟩:=ho4.row.at encN_len
  subst e4
  unfold maxLen at z2
  have hlx:xs4.length=(allM LL).length:=by rw [← hx4,List.length_map]
  have HX4:=Lib.hid hx4
  have HC4:=Lib.hid hc4
  have HB4:=Lib.hid (below_over HB3.out HB3.out.size hb4)
  have HG4:=Lib.hid (HGI.out.over hb4)
  have HT4:=Lib.hid (HT3.out.over hb4)
  clear hx4 ho4 hat4 hb4 hc4 HGI HT3
  rw [hlx] at z1 HC4 ⊢
  obtain⟨nt,hnt⟩:∃ n,(allM LL).length=n:=⟨_,rfl⟩
  have HNT:=Lib.hid hnt
  rw [hnt] at z1 haf HC4 ⊢
  have hlx':xs4.length=nt:=by omega
  clear hnt hlx
  go_wp2_with fail
  go_loopw [5,6] (fun v5 v6 wr=>Sb1 w4 LL nt v5 v6 wr) (fun _ v6 _=>nt - (intOf v6).toNat)
  case atStart=>exact⟨0,0,Nat.zero_le _,rfl,rfl,Lib.hid (by unfold allN;simp),Below.refl _ _⟩
  case round =>
   obtain⟨i,m,hi,rfl,rfl,HM,HBr⟩:=hrel
   rename World=>wr
   have hm5:m≤840*262144:=by
    have h1:=allN_le HI.out i
    have h2:=HM.out
    have h3:i*262144≤840*262144:=Nat.mul_le_mul_right _ (by omega)
    omega
   by_cases hlt:i<nt
   ·
    obtain⟨bb,ob,rfl,sb,hcb⟩:=HC4.out.resolve_left (by omega)
    obtain⟨y,hy⟩:=get_of_lt (xs:=xs4) (i:=i) (by omega)
    have hr:=hcb i y hy wr HBr.out
    have y0:wr.cell? ⟨bb,ob+i*6,none⟩=some (.int .u8 y.n.file.pid.author.toNat):=hr.2 0 _ rfl
    have y1:wr.cell? ⟨bb,ob+i*6+1,none⟩=some (.int .u16 y.n.file.pid.seq.toNat):=hr.2 1 _ rfl
    have y2:wr.cell? ⟨bb,ob+i*6+2,none⟩=some (.int .u8 y.n.file.n.toNat):=hr.2 2 _ rfl
    have sy:=hr.1
    have HCY:Hid (∀ W,Below w4.heap.size w4 W→bb<W.heap.size∧∀ j u,(encN y)[j]? = some u→W.cell? ⟨bb,ob+i*6+j,none⟩=some u):=Lib.hid fun W hb=>hcb i y hy W hb
    have HY:Hid ((allM LL)[i]? = some y.n):=Lib.hid (by rw [← HX4.out,List.getElem?_map,hy];rfl)
    clear hr hy hcb
    obtain⟨f,hf⟩:∃ f,y.n.file=f:=⟨_,rfl⟩
    have HFy:=Lib.hid hf
    rw [hf] at y0 y1 y2
    clear hf
    obtain⟨T,hT⟩:∃ T,toldL (linesM LL f) (relM LL f)=T:=⟨_,rfl⟩
    have hsT:lnSeen (linesM LL f) (relM LL f)=T.map (·.text):=by rw [← hT,toldL_text]
    have hTl:T.length≤262144:=by
     have h1:=toldL_few (linesM LL f) (relM LL f)
     have h2:=lines_few (file:=f) HI.out
     rw [hT] at h1;omega
    have HAl:Hid ((aliveX (linesM LL f) (relM LL f)).length≤T.length):=Lib.hid (by rw [← hT];exact alive_told _ _)
    have HTO:Hid (∀ x∈T,ToldOk f x (optV (vertM LL x.id)) (vertM LL x.id).isSome):=Lib.hid fun x hx=>toldOk HW.out f (by rw [hT];exact hx)
    have HAN:Hid (allN LL (i+1)=allN LL i+cntN T):=Lib.hid (by
     rw [allN_succ HY.out]
     unfold ofN
     rw [HFy.out,hT])
    have HLO:Hid (∀ W,Below w4.heap.size w4 W→Calls Tryz.prog 35 #[.pointer (some ⟨b,0,none⟩),vidV f] W (LofRes W (linesM LL f) (relM LL f))):=Lib.hid fun W hb=>lof_any b LL f W (HG4.out.over hb) HW.out HI.out HE.out
    have HAT:Hid (∀ W,Below w4.heap.size w4 W→Calls Tryz.prog 14 #[.pointer (some ⟨b,0,none⟩),vidV f] W (OwnRes tlL 4 42 W T)):=Lib.hid fun W hb=>by
     have h:=ball_any b LL f W (HG4.out.over hb) HW.out HI.out HE.out
     rw [hT] at h;exact h
    have HLL:=Lib.hid (lines_few (file:=f) HI.out)
    have HSL:Hid (∀(s:Nat) (W:World),ShAt W s (linesM LL f) (relM LL f)→Calls Tryz.prog 36 #[.pointer (some ⟨s,0,none⟩)] W (LnX W (T.map (·.text)) (lnOdd (linesM LL f) (relM LL f)))):=Lib.hid fun s W h=>by
     have h9:=slines_any s _ _ W h HLL.out
     rw [lnres_x,hsT] at h9;exact h9
    have HSA:Hid (∀(s:Nat) (W:World),ShAt W s (linesM LL f) (relM LL f)→Calls Tryz.prog 38 #[.pointer (some ⟨s,0,none⟩)] W (OwnRes encI 1 3 W (aliveX (linesM LL f) (relM LL f)))):=Lib.hid fun s W h=>by
     have h9:=salive_any s _ _ W h HLL.out
     unfold SaRes at h9
     unfold aliveX
     exact h9
    have HVT:Hid (∀(x:TLine) (W:World),Below w4.heap.size w4 W→Calls Tryz.prog 37 #[.pointer (some ⟨b,0,none⟩),vidV x.id] W (VertRes W (vertM LL x.id))):=Lib.hid fun x W hb=>by
     obtain⟨bv,be,n,hg⟩:=HG4.out.over hb
     exact gvert_any b bv be n _ _ _ x.id W hg
    generalize lnOdd (linesM LL f) (relM LL f)=OD at *
    generalize aliveX (linesM LL f) (relM LL f)=AX at *
    generalize linesM LL f=LN at *
    generalize relM LL f=RL at *
    clear hT hsT
    unfold vidV at HLO HAT HVT
    go_wp2_with fail
    refine(HLO.out _ HBr.out).mono ?_
    rintro e wA ⟨sA,rfl,hsz,hsh,hbA⟩
    have HSh:=Lib.hid hsh
    have HBA:=Lib.hid (below_over HBr.out HBr.out.size hbA)
    clear hsh hbA hsz
    go_wp2_with fail
    refine(HSL.out _ _ HSh.out).mono ?_
    rintro e wB ⟨vB,rfl,hoB,hbB⟩
    have HBB:=Lib.hid (below_over HBA.out HBA.out.size hbB)
    have HSh2:=Lib.hid (HSh.out.over hbB)
    obtain⟨aS,cS,eS,k1,k2,_,hcS⟩:=(srow_of hoB.row).form
    subst eS
    unfold maxLen at k2
    have HCS:=Lib.hid hcS
    have HrB:=HCY.out wB HBB.out
    clear hoB hbB hcS HSh HSL y0 y1 y2 sy HLO
    have y0:wB.cell? ⟨bb,ob+i*6,none⟩=some (.int .u8 f.pid.author.toNat):=HrB.2 0 _ (by rw [← HFy.out];rfl)
    have y1:wB.cell? ⟨bb,ob+i*6+1,none⟩=some (.int .u16 f.pid.seq.toNat):=HrB.2 1 _ (by rw [← HFy.out];rfl)
    have y2:wB.cell? ⟨bb,ob+i*6+2,none⟩=some (.int .u8 f.n.toNat):=HrB.2 2 _ (by rw [← HFy.out];rfl)
    have sy:=HrB.1
    go_wp2_with fail
    refine(HAT.out _ HBB.out).mono ?_
    rintro e wC ⟨vC,rfl,hoC,hbC⟩
    have HBC:=Lib.hid (below_over HBB.out HBB.out.size hbC)
    have HSh3:=Lib.hid (HSh2.out.over hbC)
    obtain⟨aT,cT,eT,j1,j2,hcT⟩:=hoC.row.at encTl_len
    subst eT
    unfold maxLen at j2
    have HCT:=Lib.hid hcT
    have HCS2:Hid (T.length=0∨∃ b off,aS=some ⟨b,off,none⟩∧b<wB.heap.size∧∀ j s,(T.map (·.text))[j]? = some s→∀ W,Below wC.heap.size wC W→W.cell? ⟨b,off+j,none⟩=some (.string s)):=Lib.hid (HCS.out.imp (by rw [List.length_map];exact id) fun⟨b,off,q1,q2,q3⟩=>⟨b,off,q1,q2,fun j s hs W hb=>((below_over hbC hbC.size hb).cell (p:=⟨b,off+j,none⟩) q2).trans (q3 j s hs)⟩)
    have hsBC:=hbC.size
    clear hoC hbC hcT HSh2 y0 y1 y2 sy HrB HAT HCS
    have hml:(T.map (·.text)).length=T.length:=List.length_map ..
    rw [hml] at k1
    clear hml
    obtain⟨tl,htl⟩:∃ n,T.length=n:=⟨_,rfl⟩
    have HTL:=Lib.hid htl
    rw [htl] at k1 j1 hTl HCS2 HCT HAl ⊢
    clear htl
    go_wp2_with fail
    go_loopw [5,11] (fun v5 v11 wq=>Sb2 wC T m v5 v11 wq) (fun _ v11 _=>tl - (intOf v11).toNat)
    case atStart=>exact⟨0,m,Nat.zero_le _,rfl,rfl,Lib.hid (by unfold cntN;simp),Below.refl _ _⟩
    case round =>
     obtain⟨k,n5,hk,rfl,rfl,HN5,HBq⟩:=hrel
     rename World=>wq
     rw [HTL.out] at hk
     have hn5:n5≤840*262144+262144:=by
      have h1:=HN5.out
      have h2:=cntN_take T k
      have h3:=HTL.out
      omega
     have HB4q:=Lib.hid (below_over HBC.out HBC.out.size HBq.out)
     by_cases hlk:k<tl
     ·
      obtain⟨lb,lo,rfl,sl,hcl⟩:=HCT.out.resolve_left (by omega)
      obtain⟨xb,xo,rfl,sx,hcx⟩:=HCS2.out.resolve_left (by omega)
      obtain⟨x,hx⟩:=get_of_lt (xs:=T) (i:=k) (by have:=HTL.out;omega)
      have HXk:=Lib.hid (cntN_to hx)
      have hok:=HTO.out x (List.mem_of_getElem? hx)
      have hr:=hcl k x hx wq HBq.out
      have hvt:=HVT.out x
      obtain⟨z,hz⟩:∃ z,optV (vertM LL x.id)=z:=⟨_,rfl⟩
      obtain⟨q,hq⟩:∃ q,(vertM LL x.id).isSome=q:=⟨_,rfl⟩
      rw [hz,hq] at hok
      have HV1:Hid (∀ W,Below w4.heap.size w4 W→Calls Tryz.prog 37 #[.pointer (some ⟨b,0,none⟩),vidV x.id] W fun e w'=>e=.returned (.tuple #[vertV z,.bool q])∧Below W.heap.size W w'):=Lib.hid fun W hb=>by
       have h:=hvt W hb
       unfold VertRes at h
       rw [hz,hq] at h;exact h
      have HCL:Hid (∀ W,Below wC.heap.size wC W→lb<W.heap.size∧∀ j u,(tlL x)[j]? = some u→W.cell? ⟨lb,lo+k*4+j,none⟩=some u):=Lib.hid fun W hb=>hcl k x hx W hb
      have HCX:Hid (∀ W,Below wC.heap.size wC W→W.cell? ⟨xb,xo+k,none⟩=some (.string x.text)):=Lib.hid fun W hb=>hcx k x.text (by rw [List.getElem?_map,hx];rfl) W hb
      have HOK:=Lib.hid hok
      have l1:wq.cell? ⟨lb,lo+k*4+1,none⟩=some (.int .u8 x.id.pid.author.toNat):=hr.2 1 _ rfl
      have l2:wq.cell? ⟨lb,lo+k*4+1+1,none⟩=some (.int .u16 x.id.pid.seq.toNat):=hr.2 2 _ rfl
      have l3:wq.cell? ⟨lb,lo+k*4+1+2,none⟩=some (.int .u8 x.id.n.toNat):=hr.2 3 _ rfl
      have sl2:=hr.1
      clear hx hr hvt hz hq hok hcl hcx
      unfold vidV vertV at HV1
      go_wp2_with fail
      refine(HV1.out _ HB4q.out).mono ?_
      rintro e wD ⟨rfl,hbD⟩
      have HBD:=Lib.hid (below_over HBq.out HBq.out.size hbD)
      clear hbD l1 l2 l3 sl2
      go_upto_region 18 with(fail)
      have HZ:=Lib.hid (arr_new wD #[.int .u8 z.id.pid.author.toNat,.int .u16 z.id.pid.seq.toNat,.int .u8 z.id.n.toNat,.int .u8 z.kind.toNat,.int .u8 z.file.pid.author.toNat,.int .u16 z.file.pid.seq.toNat,.int .u8 z.file.n.toNat,.string z.text,.bool z.dead] 86)
      have HBE:=Lib.hid (HBD.out.alloc HBD.out.size (.cells #[.int .u8 z.id.pid.author.toNat,.int .u16 z.id.pid.seq.toNat,.int .u8 z.id.n.toNat,.int .u8 z.kind.toNat,.int .u8 z.file.pid.author.toNat,.int .u16 z.file.pid.seq.toNat,.int .u8 z.file.n.toNat,.string z.text,.bool z.dead] 86))
      generalize wD.alloc (.cells #[.int .u8 z.id.pid.author.toNat,.int .u16 z.id.pid.seq.toNat,.int .u8 z.id.n.toNat,.int .u8 z.kind.toNat,.int .u8 z.file.pid.author.toNat,.int .u16 z.file.pid.seq.toNat,.int .u8 z.file.n.toNat,.string z.text,.bool z.dead] 86)=wE at *
      have HB4E:=Lib.hid (below_over HBC.out HBC.out.size HBE.out)
      have hrE:=HCL.out wE HBE.out
      have hyE:=HCY.out wE HB4E.out
      have t0:=HCX.out wE HBE.out
      have st:xb<wE.heap.size:=by have:=HBE.out.size;omega
      have l0:wE.cell? ⟨lb,lo+k*4,none⟩=some (.string x.text):=hrE.2 0 _ rfl
      have l1:wE.cell? ⟨lb,lo+k*4+1,none⟩=some (.int .u8 x.id.pid.author.toNat):=hrE.2 1 _ rfl
      have l2:wE.cell? ⟨lb,lo+k*4+1+1,none⟩=some (.int .u16 x.id.pid.seq.toNat):=hrE.2 2 _ rfl
      have l3:wE.cell? ⟨lb,lo+k*4+1+2,none⟩=some (.int .u8 x.id.n.toNat):=hrE.2 3 _ rfl
      have sl2:=hrE.1
      have y0:wE.cell? ⟨bb,ob+i*6,none⟩=some (.int .u8 f.pid.author.toNat):=hyE.2 0 _ (by rw [← HFy.out];rfl)
      have y1:wE.cell? ⟨bb,ob+i*6+1,none⟩=some (.int .u16 f.pid.seq.toNat):=hyE.2 1 _ (by rw [← HFy.out];rfl)
      have y2:wE.cell? ⟨bb,ob+i*6+2,none⟩=some (.int .u8 f.n.toNat):=hyE.2 2 _ (by rw [← HFy.out];rfl)
      have sy:=hyE.1
      have g0:=HZ.out.cell (j:=7) rfl
      have g1:=HZ.out.cell (j:=8) rfl
      have g2:=HZ.out.cell (j:=4) rfl
      have g3:=HZ.out.cell (j:=5) rfl
      have g4:=HZ.out.cell (j:=6) rfl
      have sg:=HZ.out.lt
      have gd:=fun p q xs ys w=>guard_vid .neq p q xs ys w
      cases q with
      | true =>
       obtain⟨h1,h2,h3,h4⟩:=HOK.out.yes rfl
       rw [h1] at g0
       rw [h3] at g1
       rw [h2] at g2 g3 g4
       have en:∀ w,(binOp .neq 27 (.agg #[.int .u8 f.pid.author.toNat,.int .u16 f.pid.seq.toNat,.int .u8 f.n.toNat]) (.agg #[.int .u8 f.pid.author.toNat,.int .u16 f.pid.seq.toNat,.int .u8 f.n.toNat])).run Tryz.prog w=.ok (.bool false) w:=neq_vid f f false (by simp)
       have HN6:Hid (n5+1=m+cntN (T.take (k+1))):=Lib.hid (by rw [HXk.out,if_neg h4,HN5.out];omega)
       clear h1 h2 h3 h4 hrE hyE HOK
       have hcur:Below wE.heap.size wE wE.drew:=(Below.refl _ _).drew
       refine wp_region_lex (C:=IsOver wE) 49 [] (by kernel_rfl) (by kernel_rfl) (isOver_of hcur) ?_
       simp only [List.take_succ_cons,List.take_zero,List.drop_succ_cons,List.drop_zero]
       repeat(first|(refine lex_skip rfl rfl ?_;simp only [Act.put,List.setIfInBounds_toArray,List.set_cons_succ,List.set_cons_zero])|(refine lex_one rfl ?_;go_big_quiet_step (fail);refine wpQuiet_nil ?_)|(refine lex_loud rfl ?_;go_wp2_with (first|(fail));refine⟨isOver_of hcur,?_⟩))
       refine lex_end ?_
       go_wp2_with fail
       go_roundw
       case rel=>exact⟨k+1,n5+1,by rw [HTL.out];exact hlk,by go_num,by go_num,HN6,Lib.hid (below_over HBE.out HBE.out.size hcur)⟩
       case measure=>simp [intOf];omega
      | false =>
       have h1:=HOK.out.no rfl
       have en:∀ w,(binOp .neq 27 (.agg #[.int .u8 x.id.pid.author.toNat,.int .u16 x.id.pid.seq.toNat,.int .u8 x.id.n.toNat]) (.agg #[.int .u8 0,.int .u16 0,.int .u8 0])).run Tryz.prog w=.ok (.bool false) w:=neq_vid x.id noVid false (by simp [h1])
       have HN6:Hid (n5=m+cntN (T.take (k+1))):=Lib.hid (by rw [HXk.out,if_pos h1,HN5.out];rfl)
       clear h1 hrE hyE HOK
       have hcur:Below wE.heap.size wE wE.drew:=(Below.refl _ _).drew
       refine wp_region_lex (C:=IsOver wE) 49 [] (by kernel_rfl) (by kernel_rfl) (isOver_of hcur) ?_
       simp only [List.take_succ_cons,List.take_zero,List.drop_succ_cons,List.drop_zero]
       repeat(first|(refine lex_skip rfl rfl ?_;simp only [Act.put,List.setIfInBounds_toArray,List.set_cons_succ,List.set_cons_zero])|(refine lex_one rfl ?_;go_big_quiet_step (fail);refine wpQuiet_nil ?_)|(refine lex_loud rfl ?_;go_wp2_with (first|(fail));refine⟨isOver_of hcur,?_⟩))
       refine lex_end ?_
       go_wp2_with fail
       go_roundw
       case rel=>exact⟨k+1,n5,by rw [HTL.out];exact hlk,by go_num,rfl,HN6,Lib.hid (below_over HBE.out HBE.out.size hcur)⟩
       case measure=>simp [intOf];omega
     ·
      obtain rfl:k=tl:=by omega
      go_wp2_with fail
      refine(HSA.out _ _ (HSh3.out.over HBq.out)).mono ?_
      rintro e wD ⟨vD,rfl,hoD,hbD⟩
      have HBD:=Lib.hid (below_over HB4q.out HB4q.out.size hbD)
      obtain⟨aD,cD,eD⟩:=own_sl hoD
      subst eD
      clear hoD hbD
      obtain⟨na,hna⟩:∃ n,AX.length=n:=⟨_,rfl⟩
      have HAl2:=HAl.out
      rw [hna] at HAl2 ⊢
      have dgt:decide ((k:Int)<(na:Int))=false:=decide_eq_false (by omega)
      have HN6:Hid (n5=allN LL (i+1)):=Lib.hid (by rw [HAN.out,← HM.out,HN5.out,← HTL.out,List.take_length])
      go_wp2_with fail
      go_roundw
      case rel=>exact⟨i+1,n5,hlt,by go_num,rfl,HN6,HBD⟩
      case measure=>simp [intOf];omega
   ·
    obtain rfl:i=nt:=by omega
    have HMT:Hid (m+byTot LL 0=m):=Lib.hid (by unfold byTot;simp)
    have HMA:Hid (byTot LL 256=m):=Lib.hid (by rw [byTot_all,HNT.out,← HM.out])
    have HBy:Hid (∀(a:Nat) (W:World),a<256→Below w4.heap.size w4 W→Calls Tryz.prog 16 #[.pointer (some ⟨b,0,none⟩),.int .u8 a] W fun e w'=>e=.returned (.int .i64 (byM LL (UInt8.ofNat a):Int))∧Below W.heap.size W w'):=Lib.hid fun a W ha hb=>by
     have h:=bby_any b LL (UInt8.ofNat a) W (HG4.out.over hb) HW.out HI.out HE.out (HT4.out.over hb)
     rw [show(UInt8.ofNat a).toNat=a by simp;omega] at h
     exact h
    go_wp2_with fail
    go_loopw [5,14] (fun v5 v14 wq=>Sb3 wr LL m v5 v14 wq) (fun _ v14 _=>256 - (intOf v14).toNat)
    case atStart=>exact⟨0,m,Nat.zero_le _,rfl,rfl,HMT,Below.refl _ _⟩
    case round =>
     obtain⟨a,n5,ha,rfl,rfl,HN5,HBq⟩:=hrel
     rename World=>wq
     have hn5:n5≤840*262144:=by have:=HN5.out;omega
     have HB4q:=Lib.hid (below_over HBr.out HBr.out.size HBq.out)
     by_cases hla:a<256
     ·
      have hby:=HBy.out a wq hla HB4q.out
      have hle:byM LL (UInt8.ofNat a)≤n5:=by
       have h1:=byTot_le LL (255 - a) (a+1) (by omega)
       have h2:=byTot_succ LL a
       have h3:=HN5.out
       have h4:=HMA.out
       omega
      have HN6:Hid (n5 - byM LL (UInt8.ofNat a)+byTot LL (a+1)=m):=Lib.hid (by
       rw [byTot_succ]
       have:=HN5.out
       omega)
      generalize byM LL (UInt8.ofNat a)=by5 at *
      have HBY:=Lib.hid hby
      clear hby
      go_wp2_with fail
      refine HBY.out.mono ?_
      rintro e wF ⟨rfl,hbF⟩
      have HBF:=Lib.hid (below_over HBq.out HBq.out.size hbF)
      clear hbF HBY
      go_wp2_with fail
      go_roundw
      case rel=>exact⟨a+1,n5 - by5,hla,by go_num,by first|go_num|(congr 1;omega),HN6,HBF⟩
      case measure=>simp [intOf];omega
     ·
      obtain rfl:a=256:=by omega
      obtain rfl:n5=0:=by have h1:=HN5.out;have h2:=HMA.out;omega
      have HBn:Hid (∀ W,Calls Tryz.prog 16 #[.pointer none,.int .u8 1] W fun e w'=>e=.returned (.int .i64 0)∧Below W.heap.size W w'):=Lib.hid fun W=>bbyN_any 1 W
      have HAn:Hid (∀ W,Calls Tryz.prog 14 #[.pointer none,.agg #[.int .u8 0,.int .u16 0,.int .u8 0]] W (OwnRes tlL 4 42 W [])):=Lib.hid fun W=>ballN_any noVid W
      go_wp2_with (first|(go_at_call 16;(with_reducible refine(HBn.out _).mono ?_);rintro e wF ⟨rfl,hbF⟩;have HBF:=Lib.hid (below_over HB4q.out HB4q.out.size hbF);clear hbF)|(go_at_call 14;(with_reducible refine(HAn.out _).mono ?_);rintro e wG ⟨vG,rfl,hoG,hbG⟩;obtain⟨aG,cG,eG⟩:=own_sl hoG;subst eG;have HBG:=Lib.hid (below_over HBF.out HBF.out.size hbG);clear hbG hoG)|(go_at_call 10;(with_reducible refine(HWk.out _ (HT4.out.over HBG.out)).mono ?_);rintro e wH ⟨rfl,hbH⟩;have HBH:=Lib.hid (below_over HBG.out HBG.out.size hbH);clear hbH))
      go_ret
      exact⟨rfl,below_over HB4.out HB4.out.size HBH.out⟩
end Go.Proofs.YtanfebljiblhbaaGreatDoor
namespace Go.Proofs.YtanfebljiblhbaaGreatDoor
open Go Go.ChangeShapes Go.WideShapes Go.ChangeAt Go.RowKit
open Go.ChangeMaps (open_string)

theorem own:ownKnob Tryz.prog.godebug=none:=by kernel_rfl
theorem gTab : Tryz.prog.globalNamed "internal/strconv.uint64pow10" = some 0 := by kernel_rfl
theorem gTabT:(Tryz.prog.globals[0]?).map (·.type)=some 334:=by kernel_rfl
theorem tab_eq:(Rows.laid_internal_strconv_uint64pow10:DataW Unit)=Lib.tabData .u64 Lib.pow10Tab:=by kernel_rfl
theorem tab_of{W:World}(hL:laidMet Tryz.prog Rows.blameSumsRow.laid W):Tab W:=by
 have h := hL.filter (fun x => x.1 == "internal/strconv.uint64pow10")
 rw [show Rows.blameSumsRow.laid.filter (fun x => x.1 == "internal/strconv.uint64pow10") = [("internal/strconv.uint64pow10", Rows.laid_internal_strconv_uint64pow10)] from by kernel_rfl, tab_eq] at h
 exact Lib.tabIs_of_head gTab gTabT Tryz.underlying334 Tryz.underlying248 (by kernel_rfl) (by kernel_rfl) h
set_option maxRecDepth 100000 in
theorem contract_BlameSums(H:Type)(enc:TypeId × Value→H)(W:World)(base:Nat)(args:Array Value)(ds gs:List (DataW H))(before:List MemPlace)
  (hval:∀(j:Nat) t v,Tryz.f8.params[j]? = some t→args[j]? = some v→Value.okWide Tryz.prog W .any base t v)
  (hW:DataW.Whole enc Tryz.prog Tryz.f8.params.toList Rows.blameSumsSpec.vars false W args.toList ds gs before) (hL:laidMet Tryz.prog Rows.blameSumsRow.laid W) :
  Calls Tryz.prog 8 args W fun e W'=>∃ v,e=.returned v∧Rows.blameSumsSpec.post enc Tryz.prog Tryz.f8 false true false false W args v W':=by
 have hW':=hW
 obtain⟨p,q,hA0,hV,rfl,hfz,hnd⟩:=hW
 have hA:DataW.TrodAll enc Tryz.prog W 0 (fun _=>true) true Tryz.f8.params.toList args.toList ds p:=hA0
 rw [Tryz.params8] at hA hval
 obtain⟨v0,d0,rfl,rfl,h0⟩:=trodAll_one hA
 obtain⟨rfl,rfl⟩:=trodVars_none hV
 obtain⟨ps,hp,hz⟩:=pats_arg (hval 0 22 v0 rfl rfl) h0
 refine(bls_any v0 ps W hp hz (tab_of hL) works49_any).mono fun e W' ⟨he,hb⟩=>⟨_,he,?_⟩
 exact law_post (by kernel_rfl) Tryz.underlying4 rfl laidOut (by kernel_rfl) rfl hW' hb

/-- a row's cells written anew -/
def putCells(cs:Array Value):Obj→Obj
 | .cells _ t fr=>.cells cs t fr
 | o=>o
def cells_laid_math_bits_deBruijn32tab:Array Value:=#[.int .u8 0,.int .u8 1,.int .u8 28,.int .u8 2,.int .u8 29,.int .u8 14,.int .u8 24,.int .u8 3,.int .u8 30,.int .u8 22,.int .u8 20,.int .u8 15,.int .u8 25,.int .u8 17,.int .u8 4,.int .u8 8,.int .u8 31,.int .u8 27,.int .u8 13,.int .u8 23,.int .u8 21,.int .u8 19,.int .u8 16,.int .u8 7,.int .u8 26,.int .u8 12,.int .u8 18,.int .u8 6,.int .u8 11,.int .u8 5,.int .u8 10,.int .u8 9]
def cells_laid_math_bits_deBruijn64tab:Array Value:=#[.int .u8 0,.int .u8 1,.int .u8 56,.int .u8 2,.int .u8 57,.int .u8 49,.int .u8 28,.int .u8 3,.int .u8 61,.int .u8 58,.int .u8 42,.int .u8 50,.int .u8 38,.int .u8 29,.int .u8 17,.int .u8 4,.int .u8 62,.int .u8 47,.int .u8 59,.int .u8 36,.int .u8 45,.int .u8 43,.int .u8 51,.int .u8 22,.int .u8 53,.int .u8 39,.int .u8 33,.int .u8 30,.int .u8 24,.int .u8 18,.int .u8 12,.int .u8 5,.int .u8 63,.int .u8 55,.int .u8 48,.int .u8 27,.int .u8 60,.int .u8 41,.int .u8 37,.int .u8 16,.int .u8 46,.int .u8 35,.int .u8 44,.int .u8 21,.int .u8 52,.int .u8 32,.int .u8 23,.int .u8 11,.int .u8 54,.int .u8 26,.int .u8 40,.int .u8 15,.int .u8 34,.int .u8 20,.int .u8 31,.int .u8 10,.int .u8 25,.int .u8 14,.int .u8 19,.int .u8 9,.int .u8 13,.int .u8 8,.int .u8 7,.int .u8 6]
def cells_laid_internal_strconv_uint64pow10:Array Value:=#[.int .u64 1,.int .u64 10,.int .u64 100,.int .u64 1000,.int .u64 10000,.int .u64 100000,.int .u64 1000000,.int .u64 10000000,.int .u64 100000000,.int .u64 1000000000,.int .u64 10000000000,.int .u64 100000000000,.int .u64 1000000000000,.int .u64 10000000000000,.int .u64 100000000000000,.int .u64 1000000000000000,.int .u64 10000000000000000,.int .u64 100000000000000000,.int .u64 1000000000000000000,.int .u64 10000000000000000000]
/-- a world for the witness -/
noncomputable def laidWorld(os:Os):World:=
 {(World.holding Tryz.prog os ⟨#[],#[],[]⟩) with heap:=((((World.holding Tryz.prog os ⟨#[],#[],[]⟩).heap.modify 2 (putCells cells_laid_math_bits_deBruijn32tab)).modify 3 (putCells cells_laid_math_bits_deBruijn64tab)).modify 0 (putCells cells_laid_internal_strconv_uint64pow10))}
theorem plain_of{b:Bool}{f0:FuncId}{fn0:Func}{name:String}(h0:Tryz.prog.funcNamed name=some f0)(h1:Tryz.prog.funcs[f0]? = some fn0)(h2:fn0.params.toList.all (fun t => !Tryz.prog.wantsStandIn t)=true)
  (h3:b=Tryz.pinned.checked.prog.looks []) (f:FuncId) (fn:Func) (hf:Tryz.pinned.checked.prog.funcNamed name=some f) (hfn:Tryz.pinned.checked.prog.funcs[f]? = some fn) :
  b=Tryz.pinned.checked.prog.looks []∧∀(j:Nat) t,fn.params[j]? = some t→Tryz.pinned.checked.prog.wantsStandIn t=false:=by
 obtain rfl:f=f0:=Option.some.inj ((show Tryz.prog.funcNamed name=some f0 from h0).symm.trans hf) |>.symm
 obtain rfl:fn=fn0:=(Option.some.inj (h1.symm.trans hfn)).symm
 refine⟨h3,fun j t ht => ?_⟩
 have:=List.all_eq_true.1 h2 t (by simpa using Array.mem_of_getElem? ht)
 show Tryz.prog.wantsStandIn t=false
 simpa using this
namespace fnBlameSums
set_option maxRecDepth 100000 in
theorem laid_met(os:Os):laidMet Tryz.prog Rows.blameSumsRow.laid ((laidWorld os).forCall (fun _ _=>0) ⟨#[],#[.slice none 0 0],[]⟩).memory:=
 laidMet_of_run' 8 (by kernel_rfl) (by kernel_rfl)
set_option maxRecDepth 100000 in
theorem reads(os:Os){H:Type}(enc:TypeId × Value→H):∃ places,DataW.whole enc Tryz.prog ((laidWorld os).forCall (fun _ _=>0) ⟨#[],#[.slice none 0 0],[]⟩).memory Tryz.f8.params.toList Rows.blameSumsSpec.vars false (#[.slice none 0 0]:Array Value).toList 8=some ([.nil],[],places):=
 ⟨[],by kernel_rfl⟩
set_option maxRecDepth 100000 in
theorem lifted(os:Os)(started:os.Started)(H:Type)(enc:TypeId × Value→H)(F:Stop.Interp) :
  ReturnsInHanded {} Tryz.checked os 8 .any ((OpenSpec.ofChange Rows.blameSumsSpec).preRow enc Tryz.prog Tryz.f8 Rows.blameSumsRow.domain false Rows.blameSumsRow.laid) (((OpenSpec.ofChange Rows.blameSumsSpec).at F).post enc Tryz.prog Tryz.f8 false true false false):=by
 obtain⟨places,hx⟩:=reads os enc
 refine returnsInHanded_of_row (C:=Tryz.checked) (s:=OpenSpec.ofChange Rows.blameSumsSpec) own started (by kernel_rfl) Tryz.func8
  (witness_row_at (enc:=enc) (C:=Tryz.checked) false (laidWorld os) #[.slice none 0 0] rfl (by kernel_rfl) (by kernel_rfl) (by kernel_rfl)
   (OpenSpec.preRow_of_cond 8 hx (by kernel_rfl) (fun k hk=>by cases hk) (by kernel_rfl) (laid_met os))) ?_
 intro W base args ds gs before hval hW _ _ _ hL _ _
 exact contract_BlameSums H enc W base args ds gs before hval hW hL
theorem c_laid:laidOutB Tryz.pinned.checked.prog=true:=by kernel_rfl
theorem c_maps:mapsRowed Tryz.pinned.checked.prog=true:=by kernel_rfl
theorem c_in:(Rows.blameSumsRow.inPlace == Tryz.pinned.checked.prog.inPlace 8)=true:=by kernel_rfl
theorem c_unf:(Rows.blameSumsRow.unfollowed == Tryz.pinned.checked.prog.unfollowed 8)=true:=by kernel_rfl
theorem c_rec:(Rows.blameSumsRow.recurses == Tryz.pinned.checked.prog.recurses 8)=true:=by kernel_rfl
theorem c_nam:(Rows.blameSumsRow.named == Tryz.pinned.checked.prog.varsNamed 8)=true:=by kernel_rfl
theorem c_keys:(Rows.blameSumsRow.plainKeys == Tryz.pinned.checked.prog.plainKeys)=true:=by kernel_rfl
theorem c_heard:Tryz.pinned.checked.prog.stopsHeard=true:=by kernel_rfl
theorem c_may:Tryz.pinned.checked.prog.mayEnter=true:=by kernel_rfl
theorem c_lift:(Rows.blameSumsRow.lifted == Tryz.pinned.checked.prog.liftsFinal)=true:=by kernel_rfl
/-- the closed facts of the row, the great ones each by itself (the kernel's memory) -/
theorem closed:joinedFacts Tryz.pinned.checked.prog 8 Tryz.f8 (OpenSpec.ofChange Rows.blameSumsSpec).bare Rows.blameSumsRow=true:=by
 unfold joinedFacts
 simp only [Bool.and_eq_true]
 repeat' apply And.intro
 all_goals with_reducible first|exact c_laid|exact c_maps|exact c_in|exact c_unf|exact c_rec|exact c_nam|exact c_keys|exact c_heard|exact c_may|exact c_lift|kernel_rfl
theorem said:Rows.BlameSumsSaid:=
 OpenClaim.holds_of_cond 8 Tryz.f8 rfl rfl rfl rfl rfl rfl rfl ⟨rfl,rfl,rfl,rfl,rfl⟩ rfl rfl rfl rfl rfl (by kernel_rfl) Tryz.func8 closed
  (of_decide_eq_true (by kernel_rfl)) (by unfold Func.isWrapper;first|(rw [if_pos (by decide +kernel)];kernel_rfl)|(rw [if_neg (by decide +kernel)];exact⟨rfl,rfl⟩))
  (fun os started H enc _ F=>by rw [OpenClaim.pre_eq_preRow];exact lifted os started H enc F)
theorem card:Rows.BlameSumsCardSaid:=
 Claim7.holds_tied_plain_at .later [] _ _ _ _ said (fun _ h => by cases h) (by kernel_rfl) (fun _ h => by cases h) blameSums_row_tie rfl ⟨rfl, rfl⟩ (by kernel_rfl) rfl (plain_of (name := "bruit/bruitlaw49.BlameSums") (by kernel_rfl) Tryz.func8 (by kernel_rfl) (by kernel_rfl)) (by kernel_rfl)
end fnBlameSums


end Go.Proofs.YtanfebljiblhbaaGreatDoor
