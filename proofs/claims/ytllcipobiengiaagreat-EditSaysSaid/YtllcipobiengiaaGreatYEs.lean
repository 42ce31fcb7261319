/- How much a few patches make. EditSays. -/
import Derived.Test.YtllcipobiengiaaGreatYR27
import Derived.Test.YtllcipobiengiaaGreatYRefR
namespace Go.Proofs.YtllcipobiengiaaGreat
open Go Go.RowKit

theorem modX_in{xs:List LaidP}{y:LaidP}(h:y∈modX xs):y∈xs:=(modX_mem xs [] y h).resolve_left (by simp)
theorem modX_few{xs:List LaidP}:(modX xs).length≤xs.length:=by
 unfold modX
 have h3:=modX_len xs []
 rw [List.length_nil] at h3;omega
theorem fewMod{m:Nat}{xs:List LaidP}(h:fewL m (xs.map (·.p))=true):(patsOf (modX xs)).length≤m∧∀ p∈patsOf (modX xs),p.ops.length≤60:=by
 have h1:=fewL_len h
 rw [List.length_map] at h1
 have h2:=modX_few (xs:=xs)
 refine⟨by show((modX xs).map (·.p)).length≤m;rw [List.length_map];omega,fun p hp => ?_⟩
 obtain⟨y,hy,rfl⟩:=List.mem_map.1 hp
 exact(fewL_ops h (List.mem_map.2 ⟨y,modX_in hy,rfl⟩)).1
theorem few_ids{m:Nat}{xs:List LaidP}(h:fewL m (xs.map (·.p))=true):(idsM (patsOf (modX xs))).length≤60*m:=by
 obtain⟨h1,h2⟩:=fewMod h
 have:=idsOf_few _ 60 h2
 have h3:(idsM (patsOf (modX xs))).length≤(idsOf (patsOf (modX xs))).length:=setS_few _
 have:=Nat.mul_le_mul_left 60 h1
 omega
theorem few_edges{m:Nat}{xs:List LaidP}(h:fewL m (xs.map (·.p))=true):(edgesM (patsOf (modX xs))).length≤60*m:=by
 obtain⟨h1,h2⟩:=fewMod h
 have:=edgesOf_few _ 60 h2
 have h3:(edgesM (patsOf (modX xs))).length≤(edgesOf (patsOf (modX xs))).length:=setS_few _
 have:=Nat.mul_le_mul_left 60 h1
 omega
theorem few_lines{m:Nat}{xs:List LaidP}(h:fewL m (xs.map (·.p))=true)(f:VidM):(linesM (patsOf (modX xs)) f).length≤60*m:=
 Nat.le_trans (ofM_len _ f 3) (few_ids h)
theorem filesM_few(L:List PatchM):(filesM L).length≤(idsM L).length:=by
 unfold filesM;rw [List.length_map];exact Nat.le_trans (List.length_filter_le _ _) (by unfold vertsM;rw [List.length_map];exact Nat.le_refl _)
end Go.Proofs.YtllcipobiengiaaGreat
namespace Go.Proofs.YtllcipobiengiaaGreat
open Go Go.RowKit

theorem fewL_deps27{m:Nat}{l:List PatchM}(h:fewL m l=true){p:PatchM}(hp:p∈l):p.deps.length≤100:=by
 unfold fewL at h
 simp only [Bool.and_eq_true,List.all_eq_true] at h
 have h1:=(h.2 p hp).1
 unfold fewP at h1
 simp only [Bool.and_eq_true,decide_eq_true_eq] at h1
 exact h1.1
def EsRel(w:World)(n:Nat)(v8:Value)(wr:World):Prop:=∃ k:Nat,k≤n∧v8=.int .i64 k∧Below w.heap.size w wr
attribute [local irreducible] idsM filesM linesM relM vertsM edgesM fewL modX editM aliveX firmX fewX
set_option maxHeartbeats 40000000 in
set_option maxRecDepth 100000 in
theorem es_any(v wv:Value)(ps:List LaidP)(want:List ByteArray)(id:PidM)(n0:UInt8)(w:World)(hv:Pats w v ps)(hz:∀ x∈ps,∀ o∈x.p.ops,o.text.size≤maxLen)(hs:SRow w wv want)
  (hwk:∀ W,Calls Tryz.prog 11 #[] W fun e w'=>e=.returned (.bool true)∧Below W.heap.size W w') :
  Calls Tryz.prog 3 #[v,wv,.agg #[.int .u8 id.author.toNat,.int .u16 id.seq.toNat,.int .u8 n0.toNat]] w fun e w'=>e=.returned (.bool true)∧Below w.heap.size w w':=by
 have HVb:=Lib.hid (anw w #[.int .u8 id.author.toNat,.int .u16 id.seq.toNat,.int .u8 n0.toNat] 28)
 have HB:=Lib.hid (bnew (w:=w) (.cells #[.int .u8 id.author.toNat,.int .u16 id.seq.toNat,.int .u8 n0.toNat] 28))
 have hfew:=Lib.hid (few20_any v ps 12 (by omega) (w.alloc (.cells #[.int .u8 id.author.toNat,.int .u16 id.seq.toNat,.int .u8 n0.toNat] 28)) (hv.over HB.out) hz)
 have HV:=Lib.hid hv
 have HS:=Lib.hid hs
 have HWk:=Lib.hid hwk
 clear hwk
 cases hf:fewL 12 (ps.map (·.p)) with
 | false =>
  rw [hf] at hfew
  clear hv hz hf hs
  go_enter Tryz.func3,Tryz.ntmps3
  go_upto_region 1 with(fail)
  generalize hw0:w.alloc (.cells #[.int .u8 id.author.toNat,.int .u16 id.seq.toNat,.int .u8 n0.toNat] 28)=w0 at *
  clear hw0
  go_wp2_with fail
  refine hfew.out.mono ?_
  rintro e w1 ⟨rfl,hb1⟩
  have HB1:=Lib.hid (bov HB.out HB.out.size hb1)
  clear hb1 hfew
  unfold b01
  go_wp2_with fail
  refine(HWk.out _).mono ?_
  rintro e w2 ⟨rfl,hb2⟩
  have HB2:=Lib.hid (bov HB1.out HB1.out.size hb2)
  clear hb2
  go_wp2_with fail
  go_ret
  exact⟨rfl,HB2.out⟩
 | true =>
  rw [hf] at hfew
  have HF:=Lib.hid hf
  have HZ:=Lib.hid hz
  have hpl:ps.length≤12:=by have:=fewL_len hf;simpa using this
  clear hv hz hf hs
  cases hx:fewX want with
  | false =>
   have HX:=Lib.hid hx
   clear hx
   go_enter Tryz.func3,Tryz.ntmps3
   go_upto_region 1 with(fail)
   generalize hw0:w.alloc (.cells #[.int .u8 id.author.toNat,.int .u16 id.seq.toNat,.int .u8 n0.toNat] 28)=w0 at *
   clear hw0
   go_wp2_with fail
   refine hfew.out.mono ?_
   rintro e w1 ⟨rfl,hb1⟩
   have HB1:=Lib.hid (bov HB.out HB.out.size hb1)
   clear hb1 hfew
   unfold b01
   go_wp2_with fail
   refine(few27_any wv want _ (HS.out.over HB1.out)).mono ?_
   rw [HX.out]
   rintro e w2 ⟨rfl,hb2⟩
   have HB2:=Lib.hid (bov HB1.out HB1.out.size hb2)
   clear hb2
   go_wp2_with fail
   refine(HWk.out _).mono ?_
   rintro e w3 ⟨rfl,hb3⟩
   have HB3:=Lib.hid (bov HB2.out HB2.out.size hb3)
   clear hb3
   go_wp2_with fail
   go_ret
   exact⟨rfl,HB3.out⟩
  | true =>
   have HX:=Lib.hid hx
   have hwl:want.length≤1000:=by have:=fewX_len hx;omega
   clear hx
   go_enter Tryz.func3,Tryz.ntmps3
   go_upto_region 1 with(fail)
   generalize hw0:w.alloc (.cells #[.int .u8 id.author.toNat,.int .u16 id.seq.toNat,.int .u8 n0.toNat] 28)=w0 at *
   clear hw0
   go_wp2_with fail
   refine hfew.out.mono ?_
   rintro e w1 ⟨rfl,hb1⟩
   have HB1:=Lib.hid (bov HB.out HB.out.size hb1)
   have HVb1:=Lib.hid (HVb.out.over hb1)
   clear hb1 hfew
   unfold b01
   go_wp2_with fail
   refine(few27_any wv want _ (HS.out.over HB1.out)).mono ?_
   rw [HX.out]
   rintro e w2 ⟨rfl,hb2⟩
   have HB2:=Lib.hid (bov HB1.out HB1.out.size hb2)
   have HVb2:=Lib.hid (HVb1.out.over hb2)
   clear hb2
   go_wp2_with fail
   refine(build_any v ps 12 (by omega) _ (HV.out.over HB2.out) HF.out).mono ?_
   rintro e w3 ⟨b,bv,be,n,hn,rfl,hgr⟩
   have hwf:=wf_build (ps.map (·.p))
   have HMP:Hid (patsOf (modX ps)=buildM (ps.map (·.p))):=Lib.hid (modX_pats ps)
   have HI1:=Lib.hid (few_ids HF.out)
   have HE1:=Lib.hid (few_edges HF.out)
   have HL1:=Lib.hid (few_lines HF.out)
   rw [HMP.out] at HI1 HE1 HL1
   generalize buildM (ps.map (·.p))=LL at *
   obtain⟨_,_,_,hG,hb3⟩:=hgr
   have HGI:Hid (GrIs w3 b LL):=Lib.hid ⟨bv,be,n,hG⟩
   have HW:=Lib.hid hwf
   have HB3:=Lib.hid (bov HB2.out HB2.out.size hb3)
   have HVb3:=Lib.hid (HVb2.out.over hb3)
   clear hG hb3 hn hwf
   go_wp2_with fail
   refine(rmodel_any v ps _ (HV.out.over HB3.out) (by omega) (fun y hy=>Nat.le_trans (fewL_ops HF.out (List.mem_map.2 ⟨y,hy,rfl⟩)).1 (by omega)) (fun y hy=>Nat.le_trans (fewL_deps27 HF.out (List.mem_map.2 ⟨y,hy,rfl⟩)) (by omega)) HZ.out).mono ?_
   rintro e w4 ⟨mv,rfl,hpm,hb4⟩
   obtain⟨a6,c6,hmv,h61,h62,h63⟩:=hpm.1.at encPat_len
   unfold maxLen at h62
   have hml:(modX ps).length≤300:=by have:=modX_few (xs:=ps);omega
   obtain⟨n6,hn6⟩:∃ n,(modX ps).length=n:=⟨_,rfl⟩
   rw [hn6] at hmv h61
   subst hmv
   have HPM:=Lib.hid hpm
   have HML:=Lib.hid hml
   have HB4:=Lib.hid (bov HB3.out HB3.out.size hb4)
   have HVb4:=Lib.hid (HVb3.out.over hb4)
   have HGI4:=Lib.hid (HGI.out.over hb4)
   clear hpm hb4 h63 hn6 hml
   go_upto_region 4 with(fail)
   have HX5:=Lib.hid (anw w4 #[.slice a6 n6 c6] 35)
   have HVb5:=Lib.hid (HVb4.out.alloc (.cells #[.slice a6 n6 c6] 35))
   have HB45:=Lib.hid (bnew (w:=w4) (.cells #[.slice a6 n6 c6] 35))
   have HB5:=Lib.hid (HB4.out.alloc HB4.out.size (.cells #[.slice a6 n6 c6] 35))
   generalize hw5:w4.alloc (.cells #[.slice a6 n6 c6] 35)=w5 at *
   clear hw5
   have HGI5:=Lib.hid (HGI4.out.over HB45.out)
   have HPM5:=Lib.hid (HPM.out.over HB45.out)
   have HWX:Hid (WfG (patsOf (modX ps))):=Lib.hid (by rw [HMP.out];exact HW.out)
   have HOL:Hid (∀ x∈modX ps,x.p.ops.length≤200):=Lib.hid fun x hx=>wf_len HWX.out x.p (List.mem_map.2 ⟨x,hx,rfl⟩)
   have HIX:Hid ((idsM (patsOf (modX ps))).length≤720):=Lib.hid (by rw [HMP.out];exact HI1.out)
   have HEX:Hid ((edgesM (patsOf (modX ps))).length≤720):=Lib.hid (by rw [HMP.out];exact HE1.out)
   have hfl:(filesM LL).length≤720:=Nat.le_trans (filesM_few _) HI1.out
   obtain⟨FL,hFL⟩:∃ FL,filesM LL=FL:=⟨_,rfl⟩
   have HFl:=Lib.hid (rfiles20_own _ (modX ps) w5 HPM5.out HML.out (fun x hx=>Nat.le_trans (HOL.out x hx) (by omega)) (by have:=HIX.out;omega) (by unfold vertsM;rw [List.length_map];have:=HIX.out;omega))
   rw [flTo_all,HMP.out,hFL] at HFl
   rw [hFL] at hfl
   clear hFL
   have x0:=HX5.out.cell (j:=0) rfl
   have sx:=HX5.out.lt
   go_wp2_with fail
   refine HFl.out.mono ?_
   rintro e w6 ⟨v6,rfl,ho6,hb6⟩
   have HB56:=Lib.hid hb6
   have HB6:=Lib.hid (bov HB5.out HB5.out.size hb6)
   have HX6:=Lib.hid (HX5.out.over hb6)
   have HVb6:=Lib.hid (HVb5.out.over hb6)
   have hN2:FL.length+1≤1099511627776:=by omega
   have hB6s:=hb6.size
   clear hb6
   obtain⟨at9,hat9⟩:∃ z,z=FL++[noVid]:=⟨_,rfl⟩
   have HA9e:=Lib.hid hat9
   have HO6:=Lib.hid ho6
   have hal:at9.length=FL.length+1:=by rw [hat9];simp
   clear hat9 ho6
   go_wp2_with ((at_builtin;(first|refine apD slVidE rfl _ _ rfl w5.heap.size _ _ (dad _ _ _) 1 _ _ _ HO6.out rfl rfl rfl rfl hN2 (by decide) hB6s ?_|refine apD slVidE rfl _ _ rfl w5.heap.size _ _ (ddw _) 1 _ _ _ HO6.out rfl rfl rfl rfl hN2 (by decide) hB6s ?_|refine apD slVidE rfl _ _ rfl w5.heap.size _ _ (ddn _ _) 1 _ _ _ HO6.out rfl rfl rfl rfl hN2 (by decide) hB6s ?_|refine apD slVidE rfl _ _ rfl w5.heap.size _ _ (drf _) 1 _ _ _ HO6.out rfl rfl rfl rfl hN2 (by decide) hB6s ?_);intro v7 w7 ho7 hg7);(obtain⟨p7,c7,e7,hO7⟩:=vown_more (GOwn.snoc (x:=noVid) ho7) HA9e.out);subst e7;have HO7:=Lib.hid hO7;have HG7:=Lib.hid hg7;have HB57:=Lib.hid (bgr HB56.out HB56.out.size HO6.out hg7);clear ho7 hg7 hO7)
   obtain⟨a7',c7',he7,h71,h72,hc7⟩:=HO7.out.row.at encVid_len
   obtain⟨he7a,he7b,he7c⟩:=Value.slice.inj he7
   subst he7a
   subst he7c
   unfold maxLen at h72
   have HC7:=Lib.hid hc7
   have HB7:=Lib.hid (bov HB5.out HB5.out.size HB57.out)
   have HX7:=Lib.hid (HX5.out.over HB57.out)
   have HVb7:=Lib.hid (HVb5.out.over HB57.out)
   have HGI7:=Lib.hid (HGI5.out.over HB57.out)
   have HPM7:=Lib.hid (HPM5.out.over HB57.out)
   have HS7:=Lib.hid (HS.out.over HB7.out)
   obtain⟨l7,hl7⟩:∃ k,FL.length+1=k:=⟨_,rfl⟩
   rw [hal,hl7] at h71
   rw [hal,hl7] at HC7
   rw [hl7] at hal ⊢
   have HL7:=Lib.hid hal
   clear he7 he7b hc7 x0 sx hl7 hal
   have HLO:Hid (∀(f:VidM) (W:World),Below w7.heap.size w7 W→Calls Tryz.prog 17 #[.pointer (some ⟨b,0,none⟩),.agg #[.int .u8 f.pid.author.toNat,.int .u16 f.pid.seq.toNat,.int .u8 f.n.toNat]] W (LofRes W (linesM LL f) (relM LL f))):=Lib.hid fun f W hb=>lof_any b LL f W (HGI7.out.over hb) HW.out (by have:=HI1.out;omega) (by have:=HE1.out;omega)
   have HRO:Hid (∀(f:VidM) (W:World),Below w7.heap.size w7 W→Calls Tryz.prog 19 #[.agg #[.slice a6 n6 c6],.agg #[.int .u8 f.pid.author.toNat,.int .u16 f.pid.seq.toNat,.int .u8 f.n.toNat]] W (R21Res W (linesM LL f) (relM LL f))):=Lib.hid fun f W hb=>by
    have:=r21of_any _ (modX ps) f W (HPM7.out.over hb) HML.out (fun x hx=>Nat.le_trans (HOL.out x hx) (by omega)) HWX.out (by have:=HIX.out;omega) (by have:=HEX.out;omega)
    rw [HMP.out] at this
    exact this
   go_wp2_with fail
   go_loopw [10] (fun v8 wr=>EsRel w7 l7 v8 wr) (fun v8 _=>l7 - (intOf v8).toNat)
   case atStart=>exact⟨0,Nat.zero_le _,rfl,Below.refl _ _⟩
   case round =>
    obtain⟨k,hk,rfl,hbl⟩:=hrel
    rename World=>wr
    have HXr:=Lib.hid (HX7.out.over hbl)
    have HVr:=Lib.hid (HVb7.out.over hbl)
    have HSr:=Lib.hid (HS7.out.over hbl)
    have HBl:=Lib.hid hbl
    by_cases hlt:k<l7
    ·
     obtain⟨bf,of,rfl,sf,hcf⟩:=HC7.out.resolve_left (by omega)
     obtain⟨f,hff⟩:=gol (xs:=at9) (i:=k) (by have:=HL7.out;omega)
     have x0:=HXr.out.cell (j:=0) rfl
     have sx:=HXr.out.lt
     have v0:=HVr.out.cell (j:=0) rfl
     have v1:=HVr.out.cell (j:=1) rfl
     have v2:=HVr.out.cell (j:=2) rfl
     have sv:=HVr.out.lt
     have f0:wr.cell? ⟨bf,of+k*3,none⟩=some (.int .u8 f.pid.author.toNat):=(hcf k f hff wr hbl).2 0 _ rfl
     have f1:wr.cell? ⟨bf,of+k*3+1,none⟩=some (.int .u16 f.pid.seq.toNat):=(hcf k f hff wr hbl).2 1 _ rfl
     have f2:wr.cell? ⟨bf,of+k*3+2,none⟩=some (.int .u8 f.n.toNat):=(hcf k f hff wr hbl).2 2 _ rfl
     have sf2:=(hcf k f hff wr hbl).1
     have HLO1:Hid (∀ W,Below wr.heap.size wr W→Calls Tryz.prog 17 #[.pointer (some ⟨b,0,none⟩),.agg #[.int .u8 f.pid.author.toNat,.int .u16 f.pid.seq.toNat,.int .u8 f.n.toNat]] W (LofRes W (linesM LL f) (relM LL f))):=Lib.hid fun W hb=>HLO.out f W (bov HBl.out HBl.out.size hb)
     have HRO1:Hid (∀ W,Below wr.heap.size wr W→Calls Tryz.prog 19 #[.agg #[.slice a6 n6 c6],.agg #[.int .u8 f.pid.author.toNat,.int .u16 f.pid.seq.toNat,.int .u8 f.n.toNat]] W (R21Res W (linesM LL f) (relM LL f))):=Lib.hid fun W hb=>HRO.out f W (bov HBl.out HBl.out.size hb)
     have hll:(linesM LL f).length≤1000:=by have:=HL1.out f;omega
     have hnn:n0.toNat≤1000000:=by have:=n0.toNat_lt;omega
     have HEO1:Hid (∀(s:Nat) (W:World),ShAt W s (linesM LL f) (relM LL f)→SRow W wv want→Calls Tryz.prog 16 #[.pointer (some ⟨s,0,none⟩),.agg #[.int .u8 f.pid.author.toNat,.int .u16 f.pid.seq.toNat,.int .u8 f.n.toNat],.agg #[.int .u8 id.author.toNat,.int .u16 id.seq.toNat],.int .i64 n0.toNat,wv] W (OwnRes encOp 8 58 W (editM (linesM LL f) (relM LL f) (aliveX (linesM LL f) (relM LL f)) (firmX (linesM LL f) (relM LL f)) f id n0.toNat want (pairs ((firmX (linesM LL f) (relM LL f)).map (textAt (linesM LL f))) want)))):=Lib.hid fun s W h1 h2=>eops_any s wv _ _ f id n0.toNat want W h1 hll h2 hwl hnn
     have HRE1:Hid (∀(lv sv:Value) (W:World),RSh W lv sv (linesM LL f) (relM LL f)→SRow W wv want→Calls Tryz.prog 18 #[rsV lv (linesM LL f).length sv,.agg #[.int .u8 f.pid.author.toNat,.int .u16 f.pid.seq.toNat,.int .u8 f.n.toNat],.agg #[.int .u8 id.author.toNat,.int .u16 id.seq.toNat],.int .i64 n0.toNat,wv] W (OwnRes encOp 8 58 W (editM (linesM LL f) (relM LL f) (aliveX (linesM LL f) (relM LL f)) (firmX (linesM LL f) (relM LL f)) f id n0.toNat want (pairs ((firmX (linesM LL f) (relM LL f)).map (textAt (linesM LL f))) want)))):=Lib.hid fun lv sv W h1 h2=>r27ops_any lv sv wv _ _ f id n0.toNat want W h1 hll h2 hwl hnn
     generalize editM (linesM LL f) (relM LL f) (aliveX (linesM LL f) (relM LL f)) (firmX (linesM LL f) (relM LL f)) f id n0.toNat want (pairs ((firmX (linesM LL f) (relM LL f)).map (textAt (linesM LL f))) want)=OPS at HEO1 HRE1
     clear hcf hff hbl
     go_upto_region 8 with(fail)
     have hcur:Below wr.heap.size wr wr.drew:=(Below.refl _ _).drew
     refine wlex (C:=IsOver wr) 36 [] (by kernel_rfl) (by kernel_rfl) (iov hcur) ?_
     simp only [List.take_succ_cons,List.take_zero,List.drop_succ_cons,List.drop_zero]
     repeat(first|(refine lxs rfl rfl ?_;simp only [Act.put,List.setIfInBounds_toArray,List.set_cons_succ,List.set_cons_zero])|(refine lxo rfl ?_;go_big_quiet_step (fail);refine wpQuiet_nil ?_)|(refine lxl rfl ?_;go_wp2_with (first|(go_at_call 17;(with_reducible refine(HLO1.out _ hcur).mono ?_);rintro e wA ⟨sA,rfl,hsz,hsh,hb⟩;have HSA:=Lib.hid hsh;replace hcur:=bov hcur hcur.size hb;clear hb)|(go_at_call 16;(with_reducible refine(HEO1.out _ _ HSA.out (HSr.out.over hcur)).mono ?_);rintro e wB ⟨vB,rfl,hoB,hb⟩;have HRB:=Lib.hid hoB.row;replace hcur:=bov hcur hcur.size hb;clear hb)|(go_at_call 19;(with_reducible refine(HRO1.out _ hcur).mono ?_);rintro e wC ⟨lvC,svC,rfl,hrs,hb⟩;have HRC:=Lib.hid hrs;have HRB2:=Lib.hid (HRB.out.over hb);replace hcur:=bov hcur hcur.size hb;clear hb)|(go_at_call 18;(with_reducible refine(HRE1.out _ _ _ HRC.out (HSr.out.over hcur)).mono ?_);rintro e wD ⟨vD,rfl,hoD,hb⟩;have HRD:=Lib.hid hoD.row;have HRB3:=Lib.hid (HRB2.out.over hb);replace hcur:=bov hcur hcur.size hb;clear hb)|(go_at_call 15;(with_reducible refine(lops_any _ _ _ _ _ HRB3.out HRD.out).mono ?_);rw [show decide (OPS=OPS)=true from decide_eq_true rfl];rintro e wE ⟨rfl,hb⟩;unfold one01;replace hcur:=bov hcur hcur.size hb;clear hb));refine⟨iov hcur,?_⟩))
     refine lxe ?_
     go_wp2_with fail
     go_roundw
     case rel=>exact⟨k+1,hlt,by go_num,bov HBl.out HBl.out.size hcur⟩
     case measure=>simp [intOf];omega
    ·
     obtain rfl:k=l7:=by omega
     go_wp2_with fail
     refine(HWk.out _).mono ?_
     rintro e w8 ⟨rfl,hb8⟩
     have HB8:=Lib.hid (bov HBl.out HBl.out.size hb8)
     clear hb8
     go_wp2_with fail
     go_ret
     exact⟨rfl,bov HB7.out HB7.out.size HB8.out⟩
end Go.Proofs.YtllcipobiengiaaGreat
