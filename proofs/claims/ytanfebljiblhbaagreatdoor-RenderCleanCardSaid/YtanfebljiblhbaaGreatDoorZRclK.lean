/- RenderClean. The card of RenderClean closed: for every input the law returns true and leaves its arguments as they were. Of the listed tables the walk needs the powers of ten. -/
import Derived.Test.YtanfebljiblhbaaGreatDoorZSsP
import Derived.Test.YtanfebljiblhbaaGreatDoorZTreeD
import Derived.Test.YtanfebljiblhbaaGreatDoorZWr
import Derived.Test.YtanfebljiblhbaaGreatDoorZPatO
import Derived.Test.YtanfebljiblhbaaGreatDoorZCard
import Derived.Stop.LaidErr
set_option linter.unusedVariables false
set_option linter.unusedSimpArgs false
namespace Go.Proofs.YtanfebljiblhbaaGreatDoor
open Go Go.RowKit

def plTo(t:List FileM)(i:Nat):Bool:=(t.take i).all plainF
def smTo(t:List FileM)(i:Nat):Bool:=decide (t.length≤16) && (t.take i).all smallF
def lnTo(f:FileM)(k:Nat):Bool:=(f.lines.take k).all fun t => !markOk t
theorem plTo_zero(t:List FileM):plTo t 0=true:=rfl
theorem smTo_zero(t:List FileM):smTo t 0=decide (t.length≤16):=by unfold smTo;simp
theorem lnTo_zero(f:FileM):lnTo f 0=true:=rfl
theorem plTo_succ{t:List FileM}{i:Nat}{f:FileM}(h:t[i]? = some f):plTo t (i+1)=(plTo t i && (nameOk f.name && (decide (f.also.length=0) && lnTo f f.lines.length))):=by
 unfold plTo lnTo;rw [take_succ' h,List.all_append,List.take_length];simp [plainF]
theorem smTo_succ{t:List FileM}{i:Nat}{f:FileM}(h:t[i]? = some f):smTo t (i+1)=(smTo t i && decide (f.lines.length≤60)):=by
 unfold smTo;rw [take_succ' h,List.all_append];simp [smallF,Bool.and_assoc]
theorem lnTo_succ{f:FileM}{k:Nat}{s:ByteArray}(h:f.lines[k]? = some s):lnTo f (k+1)=(lnTo f k && !markOk s):=by
 unfold lnTo;rw [take_succ' h,List.all_append];simp
theorem plTo_all(t:List FileM):plTo t t.length=t.all plainF:=by unfold plTo;rw [List.take_length]
theorem smTo_all(t:List FileM):smTo t t.length=(decide (t.length≤16) && t.all smallF):=by unfold smTo;rw [List.take_length]
def RclRel(w4:World)(t:List FileM)(v5 v6 v7:Value)(wr:World):Prop:=∃(i:Nat) (p s:Bool),i≤t.length∧v7=.int .i64 i∧v5=.bool p∧v6=.bool s∧Hid (p=plTo t i)∧Hid (s=smTo t i)∧Hid (Below w4.heap.size w4 wr)
def RlRel(w4:World)(f:FileM)(q:Bool)(v5 v8:Value)(wr:World):Prop:=∃(k:Nat) (p:Bool),k≤f.lines.length∧v8=.int .i64 k∧v5=.bool p∧Hid (p=(q && lnTo f k))∧Hid (Below w4.heap.size w4 wr)
theorem rise_at{t:List FileM}(h:t.Pairwise fun a b=>ltB a.name b.name=true){i:Nat}{f g:FileM}(hf:t[i]? = some f)(hg:t[i+1]? = some g):Op.bytesLess f.name.toList g.name.toList=true:=by
 obtain⟨h1,rfl⟩:=List.getElem?_eq_some_iff.1 hf
 obtain⟨h2,rfl⟩:=List.getElem?_eq_some_iff.1 hg
 exact List.pairwise_iff_getElem.1 h i (i+1) h1 h2 (by omega)
attribute [local irreducible] plTo smTo lnTo idsM filesM linesM relM vertsM edgesM fewL modX lnSeen lnOdd flawsM allM nameOk plainF smallF
set_option maxHeartbeats 40000000 in
set_option maxRecDepth 100000 in
theorem rcl_any(v:Value)(ps:List LaidP)(w:World)(hv:Pats w v ps)(hz:∀ x∈ps,∀ o∈x.p.ops,o.text.size≤maxLen)(ht:Tab w)
  (hwk:∀ W,Tab W→Calls Tryz.prog 20 #[] W fun e w'=>e=.returned (.bool true)∧Below W.heap.size W w') :
  Calls Tryz.prog 6 #[v] w fun e w'=>e=.returned (.bool true)∧Below w.heap.size w w':=by
 have hfew:=Lib.hid (few20_any v ps 16 (by omega) w hv hz)
 have HV:=Lib.hid hv
 have HWk:=Lib.hid hwk
 have HT:=Lib.hid ht
 clear hwk ht
 cases hf:fewL 16 (ps.map (·.p)) with
 | false =>
  rw [hf] at hfew
  clear hv hz hf
  go_enter Tryz.func6,Tryz.ntmps6
  go_wp2_with fail
  refine hfew.out.mono ?_
  rintro e w1 ⟨rfl,hb1⟩
  have HB1:=Lib.hid hb1
  have HT1:=Lib.hid (HT.out.over hb1)
  clear hb1 hfew
  unfold b01
  go_wp2_with fail
  refine(HWk.out _ HT1.out).mono ?_
  rintro e w2 ⟨rfl,hb2⟩
  have HB2:=Lib.hid (below_over HB1.out HB1.out.size hb2)
  clear hb2
  go_wp2_with fail
  go_ret
  exact⟨rfl,HB2.out⟩
 | true =>
  rw [hf] at hfew
  have HF:=Lib.hid hf
  clear hv hz hf
  go_enter Tryz.func6,Tryz.ntmps6
  go_wp2_with fail
  refine hfew.out.mono ?_
  rintro e w2 ⟨rfl,hb1⟩
  have HB2:=Lib.hid hb1
  clear hb1 hfew
  unfold b01
  go_wp2_with fail
  refine(build_any v ps 16 (by omega) _ (HV.out.over HB2.out) HF.out).mono ?_
  rintro e w3 ⟨b,bv,be,n,hn,rfl,hgr⟩
  have hwf:=wf_build (ps.map (·.p))
  have HMP:Hid (patsOf (modX ps)=buildM (ps.map (·.p))):=Lib.hid (modX_pats ps)
  have HI1:=Lib.hid (few_ids HF.out)
  have HE1:=Lib.hid (few_edges HF.out)
  rw [HMP.out] at HI1 HE1
  generalize buildM (ps.map (·.p))=LL at *
  obtain⟨_,_,_,hG,hb3⟩:=hgr
  have HGI:Hid (GrIs w3 b LL):=Lib.hid ⟨bv,be,n,hG⟩
  have HW:=Lib.hid hwf
  have HB3:=Lib.hid (below_over HB2.out HB2.out.size hb3)
  have HT3:=Lib.hid (HT.out.over HB3.out)
  clear hG hb3 hn hwf HV HMP HF HT
  go_wp2_with fail
  refine(rtree_any b LL w3 HGI.out HW.out (by have:=HI1.out;omega) (by have:=HE1.out;omega) HT3.out).mono ?_
  rintro e w4 ⟨v4,t,rfl,hi,hf4,hb4⟩
  obtain⟨hl1,hl2⟩:=tree_law HW.out hi
  have HSZ:=Lib.hid (tree_sizes HW.out hi)
  have HRise:=Lib.hid hi.rise
  have HCl:Hid (decide ((flawsM LL).length=0)=t.all plainF):=Lib.hid (by rw [← hl1,← flawsM_nil];simp [List.length_eq_zero_iff])
  have HGd:Hid (treeGood t=(t.all plainF && (decide (t.length≤16) && t.all smallF))):=Lib.hid hl2
  have HFR:=Lib.hid hf4.frow
  obtain⟨a4,cap4,rfl,q1,q2,_,hc4⟩:=hf4.frow.form
  unfold maxLen at q2
  have HC:=Lib.hid hc4
  have HB4:=Lib.hid (below_over HB3.out HB3.out.size hb4)
  have HG4:=Lib.hid (HGI.out.over hb4)
  have HT4:=Lib.hid (HT3.out.over hb4)
  clear hi hf4 hb4 hl1 hl2 hc4 HGI HT3
  obtain⟨nt,hnt⟩:∃ n,t.length=n:=⟨_,rfl⟩
  have HNT:=Lib.hid hnt
  rw [hnt] at q1 HC ⊢
  rw [hnt] at HFR
  have d16:decide ((nt:Int)≤16)=decide (nt≤16):=by rw [decide_eq_decide];omega
  clear hnt
  go_wp2_with fail
  go_loopw [5,6,7] (fun v5 v6 v7 wr=>RclRel w4 t v5 v6 v7 wr) (fun _ _ v7 _=>nt - (intOf v7).toNat)
  case atStart=>exact⟨0,true,decide (nt≤16),Nat.zero_le _,rfl,rfl,by first|rfl|rw [d16],Lib.hid (plTo_zero t).symm,Lib.hid (by rw [smTo_zero,HNT.out]),Below.refl _ _⟩
  case round =>
   obtain⟨i,p,s,hi,rfl,rfl,rfl,HP,HS,HBr⟩:=hrel
   rename World=>wr
   by_cases hlt:i<nt
   ·
    obtain⟨b4,off4,rfl,sb4,hcf⟩:=HC.out.resolve_left (by omega)
    obtain⟨f,hf⟩:=get_of_lt (show i<t.length by rw [HNT.out];exact hlt)
    have HFi:=Lib.hid hf
    have HCF:=Lib.hid hcf
    obtain⟨av,lv,hFA⟩:=hcf i f hf
    have HFA:=Lib.hid (hFA.over HBr.out sb4)
    obtain⟨z1,z2,z3⟩:=HSZ.out.at hf
    have HZ3:=Lib.hid z3
    have sb:b4<wr.heap.size:=Nat.lt_of_lt_of_le sb4 HBr.out.size
    obtain⟨aa,ca,rfl,ka1,ka2,_,_⟩:=hFA.also.form
    obtain⟨al,cl,rfl,kl1,kl2,_,hcl⟩:=hFA.lines.form
    unfold maxLen at ka2 kl2
    have HCL:=Lib.hid hcl
    have c0:=HFA.out.c0
    have c1:=HFA.out.c1
    have c2:=HFA.out.c2
    obtain⟨na,hna⟩:∃ n,f.also.length=n:=⟨_,rfl⟩
    obtain⟨nl,hnl⟩:∃ n,f.lines.length=n:=⟨_,rfl⟩
    have HNA:=Lib.hid hna
    have HNL:=Lib.hid hnl
    rw [hna] at c1 ka1
    rw [hnl] at c2 kl1 HCL
    have dna:((na:Int) == 0)=decide (na=0):=by rw [Bool.eq_iff_iff];simp
    have d60:decide ((nl:Int)≤60)=decide (nl≤60):=by rw [decide_eq_decide];omega
    have HNm:Hid (∀ W,Calls Tryz.prog 28 #[.string f.name] W fun e w'=>e=.returned (.bool (nameOk f.name))∧Below W.heap.size W w'):=Lib.hid fun W=>rname_any f.name W z1
    obtain⟨nm,hnm⟩:∃ q,nameOk f.name=q:=⟨_,rfl⟩
    rw [hnm] at HNm
    have HNM:=Lib.hid hnm
    clear hcf hf hFA hcl hna hnl hnm z1 z2 z3
    go_upto_region 9 with(fail)
    go_cut [5] (fun s5 wx=>s5=.bool (p && (nm && decide (na=0)))∧Hid (Below wr.heap.size wr wx))
    case first =>
     cases p with
     | false =>
      go_wp2_with fail
      go_meet
      exact⟨rfl,Below.refl _ _⟩
     | true =>
      cases nm with
      | false =>
       go_wp2_with (go_at_call 28;(with_reducible refine(HNm.out _).mono ?_);rintro e w9 ⟨rfl,hb9⟩;have HB9:=Lib.hid hb9;clear hb9)
       go_meet
       exact⟨rfl,HB9⟩
      | true =>
       go_wp2_with (go_at_call 28;(with_reducible refine(HNm.out _).mono ?_);rintro e w9 ⟨rfl,hb9⟩;have HB9:=Lib.hid hb9;have c1':=(hb9.cell (p:=⟨b4,off4+i*3+1,none⟩) sb).trans c1;have sb9:b4<w9.heap.size:=(Nat.lt_of_lt_of_le sb hb9.size);clear hb9)
       go_meet
       refine⟨?_,HB9⟩
       first|rfl|(rw [dna];rfl)|(simp [dna])
    case rest =>
     obtain⟨rfl,HB9⟩:=hcut
     rename World=>w9
     obtain⟨q,hq⟩:∃ q,(p && (nm && decide (na=0)))=q:=⟨_,rfl⟩
     rw [hq]
     have HQ:=Lib.hid hq
     have sb9:b4<w9.heap.size:=Nat.lt_of_lt_of_le sb HB9.out.size
     have c2':=(HB9.out.cell (p:=⟨b4,off4+i*3+2,none⟩) sb).trans c2
     clear hq c0 c1 dna HNm
     go_upto_region 10 with(fail)
     go_cut [6] (fun s6 wx=>s6=.bool (s && decide (nl≤60))∧wx=w9)
     case first =>
      cases s with
      | false =>
       go_wp2_with fail
       go_meet
       exact⟨rfl,rfl⟩
      | true =>
       go_wp2_with fail
       go_meet
       refine⟨?_,rfl⟩
       first|rfl|(rw [d60];rfl)|(simp [d60])
     case rest =>
      obtain⟨rfl,hwx⟩:=hcut
      obtain rfl:=hwx
      obtain⟨s2,hs2⟩:∃ q,(s && decide (nl≤60))=q:=⟨_,rfl⟩
      rw [hs2]
      have HS2:Hid (s2=smTo t (i+1)):=Lib.hid (by rw [smTo_succ HFi.out,← HS.out,HNL.out,hs2])
      clear hs2 d60 c2'
      go_wp2_with fail
      go_loopw [5,8] (fun v5 v8 wq=>RlRel wr f q v5 v8 wq) (fun _ v8 _=>nl - (intOf v8).toNat)
      case atStart=>exact⟨0,q,Nat.zero_le _,rfl,rfl,Lib.hid (by rw [lnTo_zero,Bool.and_true]),HB9⟩
      case round =>
       obtain⟨k,pk,hk,rfl,rfl,HPk,HBq⟩:=hrel
       rename World=>wq
       rw [HNL.out] at hk
       have sbq:b4<wq.heap.size:=Nat.lt_of_lt_of_le sb HBq.out.size
       have c2q:=(HBq.out.cell (p:=⟨b4,off4+i*3+2,none⟩) sb).trans c2
       have HB4q:=Lib.hid (below_over HBr.out HBr.out.size HBq.out)
       by_cases hlk:k<nl
       ·
        obtain⟨bl,ol,rfl,sbl,hcl⟩:=HCL.out.resolve_left (by omega)
        obtain⟨s0,hs0⟩:=get_of_lt (show k<f.lines.length by rw [HNL.out];exact hlk)
        have l0:wq.cell? ⟨bl,ol+k,none⟩=some (.string s0):=(HB4q.out.cell (p:=⟨bl,ol+k,none⟩) sbl).trans (hcl k s0 hs0)
        have sl:bl<wq.heap.size:=Nat.lt_of_lt_of_le sbl HB4q.out.size
        have HLs:=Lib.hid (lnTo_succ hs0)
        have hsz0:=HZ3.out s0 (List.mem_of_getElem? hs0)
        have HMk:Hid (∀ W,Calls Tryz.prog 29 #[.string s0] W fun e w'=>e=.returned (.bool (markOk s0))∧Below W.heap.size W w'):=Lib.hid fun W=>rmark_any s0 W hsz0
        obtain⟨m,hm⟩:∃ q,markOk s0=q:=⟨_,rfl⟩
        rw [hm] at HMk HLs
        clear hcl hs0 hsz0 hm
        cases pk with
        | false =>
         go_wp2_with fail
         go_roundw
         case rel=>exact⟨k+1,false,by rw [HNL.out];exact hlk,by go_num,rfl,Lib.hid (by rw [HLs.out,← Bool.and_assoc,← HPk.out];rfl),HBq⟩
         case measure=>simp [intOf];omega
        | true =>
         go_wp2_with (go_at_call 29;(with_reducible refine(HMk.out _).mono ?_);rintro e w10 ⟨rfl,hb10⟩;have HB10:=Lib.hid hb10;clear hb10)
         go_roundw
         case rel=>exact⟨k+1,!m,by rw [HNL.out];exact hlk,by go_num,rfl,Lib.hid (by rw [HLs.out,← Bool.and_assoc,← HPk.out];rfl),Lib.hid (below_over HBq.out HBq.out.size HB10.out)⟩
         case measure=>simp [intOf];omega
       ·
        obtain rfl:k=nl:=by omega
        have HP2:Hid (pk=plTo t (i+1)):=Lib.hid (by rw [plTo_succ HFi.out,← HP.out,HNM.out,HNA.out,HNL.out,HPk.out,← HQ.out];simp [Bool.and_assoc])
        by_cases hi0:i=0
        ·
         have d0:decide ((0:Int)<(i:Int))=false:=decide_eq_false (by omega)
         have d0n:decide (0<i)=false:=decide_eq_false (by omega)
         clear hi0
         go_upto_region 15 with(fail)
         have hcur:Below wq.heap.size wq wq.drew:=(Below.refl _ _).drew
         refine wp_region_lex (C:=IsOver wq) 16 [] (by kernel_rfl) (by kernel_rfl) (isOver_of hcur) ?_
         simp only [List.take_succ_cons,List.take_zero,List.drop_succ_cons,List.drop_zero]
         repeat(first|(refine lex_skip rfl rfl ?_;simp only [Act.put,List.setIfInBounds_toArray,List.set_cons_succ,List.set_cons_zero])|(refine lex_one rfl ?_;go_big_quiet_step (fail);refine wpQuiet_nil ?_)|(refine lex_loud rfl ?_;go_wp2_with (first|(fail));refine⟨isOver_of hcur,?_⟩))
         refine lex_end ?_
         go_wp2_with fail
         go_roundw
         case rel=>exact⟨i+1,pk,s2,by rw [HNT.out];exact hlt,by go_num,rfl,rfl,HP2,HS2,Lib.hid (below_over HB4q.out HB4q.out.size hcur)⟩
         case measure=>simp [intOf];omega
        ·
         obtain⟨j,rfl⟩:∃ j,i=j+1:=⟨i - 1,by omega⟩
         obtain⟨g,hg⟩:=get_of_lt (show j<t.length by rw [HNT.out];omega)
         obtain⟨av2,lv2,hFA2⟩:=HCF.out j g hg
         have e0:wq.cell? ⟨b4,off4+j*3,none⟩=some (.string g.name):=(HB4q.out.cell (p:=⟨b4,off4+j*3,none⟩) sb4).trans hFA2.c0
         have e1:wq.cell? ⟨b4,off4+(j+1)*3,none⟩=some (.string f.name):=(HBq.out.cell (p:=⟨b4,off4+(j+1)*3,none⟩) sb).trans HFA.out.c0
         have hless:Op.bytesLess g.name.toList f.name.toList=true:=rise_at HRise.out hg HFi.out
         have d0:decide ((0:Int)<(j:Int)+1)=true:=decide_eq_true (by omega)
         have d0n:decide ((0:Int)<((j+1:Nat):Int))=true:=decide_eq_true (by omega)
         clear hi0 hg hFA2
         go_upto_region 15 with(fail)
         have hcur:Below wq.heap.size wq wq.drew:=(Below.refl _ _).drew
         refine wp_region_lex (C:=IsOver wq) 16 [] (by kernel_rfl) (by kernel_rfl) (isOver_of hcur) ?_
         simp only [List.take_succ_cons,List.take_zero,List.drop_succ_cons,List.drop_zero]
         repeat(first|(refine lex_skip rfl rfl ?_;simp only [Act.put,List.setIfInBounds_toArray,List.set_cons_succ,List.set_cons_zero])|(refine lex_one rfl ?_;go_big_quiet_step (fail);refine wpQuiet_nil ?_)|(refine lex_loud rfl ?_;go_wp2_with (first|(fail));refine⟨isOver_of hcur,?_⟩))
         refine lex_end ?_
         go_wp2_with fail
         go_roundw
         case rel=>exact⟨j+1+1,pk,s2,by rw [HNT.out];exact hlt,by go_num,rfl,rfl,HP2,HS2,Lib.hid (below_over HB4q.out HB4q.out.size hcur)⟩
         case measure=>simp [intOf];omega
   ·
    obtain rfl:i=nt:=by rw [HNT.out] at hi;omega
    have HQ:Hid (p=t.all plainF):=Lib.hid (by rw [HP.out,← plTo_all,HNT.out])
    have HCn:Hid (∀ W,Below w4.heap.size w4 W→Calls Tryz.prog 27 #[.pointer (some ⟨b,0,none⟩)] W fun e w'=>e=.returned (.bool p)∧Below W.heap.size W w'):=Lib.hid fun W hb=>by
     have h9:=rclean_any b LL W (HG4.out.over hb) HW.out (by have:=HI1.out;omega) (by have:=HE1.out;omega) (HT4.out.over hb)
     rw [HCl.out,← HQ.out] at h9
     exact h9
    have HGo:Hid (∀ W,Below w4.heap.size w4 W→Calls Tryz.prog 30 #[.slice a4 i cap4] W fun e w'=>e=.returned (.bool (p && s))∧Below W.heap.size W w'):=Lib.hid fun W hb=>by
     have h9:=rtgood_any _ t W (HFR.out.over hb) HSZ.out
     rw [HGd.out,← HQ.out,← smTo_all,HNT.out,← HS.out] at h9
     exact h9
    have HTr:=Lib.hid (HT4.out.over HBr.out)
    clear hi hlt
    cases p with
    | false =>
     cases s with
     | false =>
      have HGo2:Hid (∀ W,Below w4.heap.size w4 W→Calls Tryz.prog 30 #[.slice a4 i cap4] W fun e w'=>e=.returned (.bool false)∧Below W.heap.size W w'):=HGo
      clear HGo
      go_wp2_with (first|(go_at_call 27;(with_reducible refine(HCn.out _ HBr.out).mono ?_);rintro e wA ⟨rfl,hbA⟩;have HBA:=Lib.hid (below_over HBr.out HBr.out.size hbA);clear hbA)|(go_at_call 30;(with_reducible refine(HGo2.out _ HBA.out).mono ?_);rintro e wB ⟨rfl,hbB⟩;have HBB:=Lib.hid (below_over HBA.out HBA.out.size hbB);clear hbB)|(go_at_call 20;(with_reducible refine(HWk.out _ (HT4.out.over HBB.out)).mono ?_);rintro e wC ⟨rfl,hbC⟩;have HBC:=Lib.hid (below_over HBB.out HBB.out.size hbC);clear hbC))
      go_ret
      exact⟨rfl,below_over HB4.out HB4.out.size HBC.out⟩
     | true =>
      have HGo2:Hid (∀ W,Below w4.heap.size w4 W→Calls Tryz.prog 30 #[.slice a4 i cap4] W fun e w'=>e=.returned (.bool false)∧Below W.heap.size W w'):=HGo
      clear HGo
      go_wp2_with (first|(go_at_call 27;(with_reducible refine(HCn.out _ HBr.out).mono ?_);rintro e wA ⟨rfl,hbA⟩;have HBA:=Lib.hid (below_over HBr.out HBr.out.size hbA);clear hbA)|(go_at_call 30;(with_reducible refine(HGo2.out _ HBA.out).mono ?_);rintro e wB ⟨rfl,hbB⟩;have HBB:=Lib.hid (below_over HBA.out HBA.out.size hbB);clear hbB)|(go_at_call 20;(with_reducible refine(HWk.out _ (HT4.out.over HBB.out)).mono ?_);rintro e wC ⟨rfl,hbC⟩;have HBC:=Lib.hid (below_over HBB.out HBB.out.size hbC);clear hbC))
      go_ret
      exact⟨rfl,below_over HB4.out HB4.out.size HBC.out⟩
    | true =>
     cases s with
     | false =>
      have HGo2:Hid (∀ W,Below w4.heap.size w4 W→Calls Tryz.prog 30 #[.slice a4 i cap4] W fun e w'=>e=.returned (.bool false)∧Below W.heap.size W w'):=HGo
      clear HGo
      go_wp2_with (first|(go_at_call 27;(with_reducible refine(HCn.out _ HBr.out).mono ?_);rintro e wA ⟨rfl,hbA⟩;have HBA:=Lib.hid (below_over HBr.out HBr.out.size hbA);clear hbA)|(go_at_call 30;(with_reducible refine(HGo2.out _ HBA.out).mono ?_);rintro e wB ⟨rfl,hbB⟩;have HBB:=Lib.hid (below_over HBA.out HBA.out.size hbB);clear hbB)|(go_at_call 20;(with_reducible refine(HWk.out _ (HT4.out.over HBB.out)).mono ?_);rintro e wC ⟨rfl,hbC⟩;have HBC:=Lib.hid (below_over HBB.out HBB.out.size hbC);clear hbC))
      go_ret
      exact⟨rfl,below_over HB4.out HB4.out.size HBC.out⟩
     | true =>
      have HGo2:Hid (∀ W,Below w4.heap.size w4 W→Calls Tryz.prog 30 #[.slice a4 i cap4] W fun e w'=>e=.returned (.bool true)∧Below W.heap.size W w'):=HGo
      clear HGo
      go_wp2_with (first|(go_at_call 27;(with_reducible refine(HCn.out _ HBr.out).mono ?_);rintro e wA ⟨rfl,hbA⟩;have HBA:=Lib.hid (below_over HBr.out HBr.out.size hbA);clear hbA)|(go_at_call 30;(with_reducible refine(HGo2.out _ HBA.out).mono ?_);rintro e wB ⟨rfl,hbB⟩;have HBB:=Lib.hid (below_over HBA.out HBA.out.size hbB);clear hbB)|(go_at_call 20;(with_reducible refine(HWk.out _ (HT4.out.over HBB.out)).mono ?_);rintro e wC ⟨rfl,hbC⟩;have HBC:=Lib.hid (below_over HBB.out HBB.out.size hbC);clear hbC))
      go_ret
      exact⟨rfl,below_over HB4.out HB4.out.size HBC.out⟩
end Go.Proofs.YtanfebljiblhbaaGreatDoor
namespace Go.Proofs.YtanfebljiblhbaaGreatDoor
open Go Go.ChangeShapes Go.WideShapes Go.ChangeAt Go.RowKit
open Go.ChangeMaps (open_string)

theorem own:ownKnob Tryz.prog.godebug=none:=by kernel_rfl
theorem gTab : Tryz.prog.globalNamed "internal/strconv.uint64pow10" = some 0 := by kernel_rfl
theorem gTabT:(Tryz.prog.globals[0]?).map (·.type)=some 334:=by kernel_rfl
theorem tab_eq:(Rows.laid_internal_strconv_uint64pow10:DataW Unit)=Lib.tabData .u64 Lib.pow10Tab:=by kernel_rfl
theorem tab_of{W:World}(hL:laidMet Tryz.prog Rows.renderCleanRow.laid W):Tab W:=by
 have h := hL.filter (fun x => x.1 == "internal/strconv.uint64pow10")
 rw [show Rows.renderCleanRow.laid.filter (fun x => x.1 == "internal/strconv.uint64pow10") = [("internal/strconv.uint64pow10", Rows.laid_internal_strconv_uint64pow10)] from by kernel_rfl, tab_eq] at h
 exact Lib.tabIs_of_head gTab gTabT Tryz.underlying334 Tryz.underlying248 (by kernel_rfl) (by kernel_rfl) h
set_option maxRecDepth 100000 in
theorem contract_RenderClean(H:Type)(enc:TypeId × Value→H)(W:World)(base:Nat)(args:Array Value)(ds gs:List (DataW H))(before:List MemPlace)
  (hval:∀(j:Nat) t v,Tryz.f6.params[j]? = some t→args[j]? = some v→Value.okWide Tryz.prog W .any base t v)
  (hW:DataW.Whole enc Tryz.prog Tryz.f6.params.toList Rows.renderCleanSpec.vars false W args.toList ds gs before) (hL:laidMet Tryz.prog Rows.renderCleanRow.laid W) :
  Calls Tryz.prog 6 args W fun e W'=>∃ v,e=.returned v∧Rows.renderCleanSpec.post enc Tryz.prog Tryz.f6 false true false false W args v W':=by
 have hW':=hW
 obtain⟨p,q,hA0,hV,rfl,hfz,hnd⟩:=hW
 have hA:DataW.TrodAll enc Tryz.prog W 0 (fun _=>true) true Tryz.f6.params.toList args.toList ds p:=hA0
 rw [Tryz.params6] at hA hval
 obtain⟨v0,d0,rfl,rfl,h0⟩:=trodAll_one hA
 obtain⟨rfl,rfl⟩:=trodVars_none hV
 obtain⟨ps,hp,hz⟩:=pats_arg (hval 0 22 v0 rfl rfl) h0
 refine(rcl_any v0 ps W hp hz (tab_of hL) works25_any).mono fun e W' ⟨he,hb⟩=>⟨_,he,?_⟩
 exact law_post (by kernel_rfl) Tryz.underlying4 rfl laidOut (by kernel_rfl) rfl hW' hb

/-- a row's cells written anew -/
def putCells(cs:Array Value):Obj→Obj
 | .cells _ t fr=>.cells cs t fr
 | o=>o
def cells_laid_math_bits_deBruijn32tab:Array Value:=#[.int .u8 0,.int .u8 1,.int .u8 28,.int .u8 2,.int .u8 29,.int .u8 14,.int .u8 24,.int .u8 3,.int .u8 30,.int .u8 22,.int .u8 20,.int .u8 15,.int .u8 25,.int .u8 17,.int .u8 4,.int .u8 8,.int .u8 31,.int .u8 27,.int .u8 13,.int .u8 23,.int .u8 21,.int .u8 19,.int .u8 16,.int .u8 7,.int .u8 26,.int .u8 12,.int .u8 18,.int .u8 6,.int .u8 11,.int .u8 5,.int .u8 10,.int .u8 9]
def cells_laid_math_bits_deBruijn64tab:Array Value:=#[.int .u8 0,.int .u8 1,.int .u8 56,.int .u8 2,.int .u8 57,.int .u8 49,.int .u8 28,.int .u8 3,.int .u8 61,.int .u8 58,.int .u8 42,.int .u8 50,.int .u8 38,.int .u8 29,.int .u8 17,.int .u8 4,.int .u8 62,.int .u8 47,.int .u8 59,.int .u8 36,.int .u8 45,.int .u8 43,.int .u8 51,.int .u8 22,.int .u8 53,.int .u8 39,.int .u8 33,.int .u8 30,.int .u8 24,.int .u8 18,.int .u8 12,.int .u8 5,.int .u8 63,.int .u8 55,.int .u8 48,.int .u8 27,.int .u8 60,.int .u8 41,.int .u8 37,.int .u8 16,.int .u8 46,.int .u8 35,.int .u8 44,.int .u8 21,.int .u8 52,.int .u8 32,.int .u8 23,.int .u8 11,.int .u8 54,.int .u8 26,.int .u8 40,.int .u8 15,.int .u8 34,.int .u8 20,.int .u8 31,.int .u8 10,.int .u8 25,.int .u8 14,.int .u8 19,.int .u8 9,.int .u8 13,.int .u8 8,.int .u8 7,.int .u8 6]
def cells_laid_internal_strconv_uint64pow10:Array Value:=#[.int .u64 1,.int .u64 10,.int .u64 100,.int .u64 1000,.int .u64 10000,.int .u64 100000,.int .u64 1000000,.int .u64 10000000,.int .u64 100000000,.int .u64 1000000000,.int .u64 10000000000,.int .u64 100000000000,.int .u64 1000000000000,.int .u64 10000000000000,.int .u64 100000000000000,.int .u64 1000000000000000,.int .u64 10000000000000000,.int .u64 100000000000000000,.int .u64 1000000000000000000,.int .u64 10000000000000000000]
/-- a world for the witness -/
noncomputable def laidWorld(os:Os):World:=
 {(World.holding Tryz.prog os ⟨#[],#[],[]⟩) with heap:=((((World.holding Tryz.prog os ⟨#[],#[],[]⟩).heap.modify 2 (putCells cells_laid_math_bits_deBruijn32tab)).modify 3 (putCells cells_laid_math_bits_deBruijn64tab)).modify 0 (putCells cells_laid_internal_strconv_uint64pow10))}
theorem plain_of{b:Bool}{f0:FuncId}{fn0:Func}{name:String}(h0:Tryz.prog.funcNamed name=some f0)(h1:Tryz.prog.funcs[f0]? = some fn0)(h2:fn0.params.toList.all (fun t => !Tryz.prog.wantsStandIn t)=true)
  (h3:b=Tryz.pinned.checked.prog.looks []) (f:FuncId) (fn:Func) (hf:Tryz.pinned.checked.prog.funcNamed name=some f) (hfn:Tryz.pinned.checked.prog.funcs[f]? = some fn) :
  b=Tryz.pinned.checked.prog.looks []∧∀(j:Nat) t,fn.params[j]? = some t→Tryz.pinned.checked.prog.wantsStandIn t=false:=by
 obtain rfl:f=f0:=Option.some.inj ((show Tryz.prog.funcNamed name=some f0 from h0).symm.trans hf) |>.symm
 obtain rfl:fn=fn0:=(Option.some.inj (h1.symm.trans hfn)).symm
 refine⟨h3,fun j t ht => ?_⟩
 have:=List.all_eq_true.1 h2 t (by simpa using Array.mem_of_getElem? ht)
 show Tryz.prog.wantsStandIn t=false
 simpa using this
namespace fnRenderClean
set_option maxRecDepth 100000 in
theorem laid_met(os:Os):laidMet Tryz.prog Rows.renderCleanRow.laid ((laidWorld os).forCall (fun _ _=>0) ⟨#[],#[.slice none 0 0],[]⟩).memory:=
 laidMet_of_run' 8 (by kernel_rfl) (by kernel_rfl)
set_option maxRecDepth 100000 in
theorem reads(os:Os){H:Type}(enc:TypeId × Value→H):∃ places,DataW.whole enc Tryz.prog ((laidWorld os).forCall (fun _ _=>0) ⟨#[],#[.slice none 0 0],[]⟩).memory Tryz.f6.params.toList Rows.renderCleanSpec.vars false (#[.slice none 0 0]:Array Value).toList 8=some ([.nil],[],places):=
 ⟨[],by kernel_rfl⟩
set_option maxRecDepth 100000 in
theorem lifted(os:Os)(started:os.Started)(H:Type)(enc:TypeId × Value→H)(F:Stop.Interp) :
  ReturnsInHanded {} Tryz.checked os 6 .any ((OpenSpec.ofChange Rows.renderCleanSpec).preRow enc Tryz.prog Tryz.f6 Rows.renderCleanRow.domain false Rows.renderCleanRow.laid) (((OpenSpec.ofChange Rows.renderCleanSpec).at F).post enc Tryz.prog Tryz.f6 false true false false):=by
 obtain⟨places,hx⟩:=reads os enc
 refine returnsInHanded_of_row (C:=Tryz.checked) (s:=OpenSpec.ofChange Rows.renderCleanSpec) own started (by kernel_rfl) Tryz.func6
  (witness_row_at (enc:=enc) (C:=Tryz.checked) false (laidWorld os) #[.slice none 0 0] rfl (by kernel_rfl) (by kernel_rfl) (by kernel_rfl)
   (OpenSpec.preRow_of_cond 8 hx (by kernel_rfl) (fun k hk=>by cases hk) (by kernel_rfl) (laid_met os))) ?_
 intro W base args ds gs before hval hW _ _ _ hL _ _
 exact contract_RenderClean H enc W base args ds gs before hval hW hL
theorem c_laid:laidOutB Tryz.pinned.checked.prog=true:=by kernel_rfl
theorem c_maps:mapsRowed Tryz.pinned.checked.prog=true:=by kernel_rfl
theorem c_in:(Rows.renderCleanRow.inPlace == Tryz.pinned.checked.prog.inPlace 6)=true:=by kernel_rfl
theorem c_unf:(Rows.renderCleanRow.unfollowed == Tryz.pinned.checked.prog.unfollowed 6)=true:=by kernel_rfl
theorem c_rec:(Rows.renderCleanRow.recurses == Tryz.pinned.checked.prog.recurses 6)=true:=by kernel_rfl
theorem c_nam:(Rows.renderCleanRow.named == Tryz.pinned.checked.prog.varsNamed 6)=true:=by kernel_rfl
theorem c_keys:(Rows.renderCleanRow.plainKeys == Tryz.pinned.checked.prog.plainKeys)=true:=by kernel_rfl
theorem c_heard:Tryz.pinned.checked.prog.stopsHeard=true:=by kernel_rfl
theorem c_may:Tryz.pinned.checked.prog.mayEnter=true:=by kernel_rfl
theorem c_lift:(Rows.renderCleanRow.lifted == Tryz.pinned.checked.prog.liftsFinal)=true:=by kernel_rfl
/-- the closed facts of the row, the great ones each by itself (the kernel's memory) -/
theorem closed:joinedFacts Tryz.pinned.checked.prog 6 Tryz.f6 (OpenSpec.ofChange Rows.renderCleanSpec).bare Rows.renderCleanRow=true:=by
 unfold joinedFacts
 simp only [Bool.and_eq_true]
 repeat' apply And.intro
 all_goals with_reducible first|exact c_laid|exact c_maps|exact c_in|exact c_unf|exact c_rec|exact c_nam|exact c_keys|exact c_heard|exact c_may|exact c_lift|kernel_rfl
theorem said:Rows.RenderCleanSaid:=
 OpenClaim.holds_of_cond 6 Tryz.f6 rfl rfl rfl rfl rfl rfl rfl ⟨rfl,rfl,rfl,rfl,rfl⟩ rfl rfl rfl rfl rfl (by kernel_rfl) Tryz.func6 closed
  (of_decide_eq_true (by kernel_rfl)) (by unfold Func.isWrapper;first|(rw [if_pos (by decide +kernel)];kernel_rfl)|(rw [if_neg (by decide +kernel)];exact⟨rfl,rfl⟩))
  (fun os started H enc _ F=>by rw [OpenClaim.pre_eq_preRow];exact lifted os started H enc F)
theorem card:Rows.RenderCleanCardSaid:=
 Claim7.holds_tied_plain_at .later [] _ _ _ _ said (fun _ h => by cases h) (by kernel_rfl) (fun _ h => by cases h) renderClean_row_tie rfl ⟨rfl, rfl⟩ (by kernel_rfl) rfl (plain_of (name := "bruit/bruitlaw25.RenderClean") (by kernel_rfl) Tryz.func6 (by kernel_rfl) (by kernel_rfl)) (by kernel_rfl)
end fnRenderClean


end Go.Proofs.YtanfebljiblhbaaGreatDoor
