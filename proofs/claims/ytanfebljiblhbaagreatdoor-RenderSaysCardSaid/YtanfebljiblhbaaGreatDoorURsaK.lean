/- Part of the proof that any graph's tree, and what is at odds in it, are as the document says. No conditions. -/
import Derived.Test.YtanfebljiblhbaaGreatDoorURtE
import Derived.Test.YtanfebljiblhbaaGreatDoorUWr
import Derived.Test.YtanfebljiblhbaaGreatDoorUPatO
import Derived.Test.YtanfebljiblhbaaGreatDoorUCard
import Derived.Stop.LaidErr
set_option linter.unusedVariables false
set_option linter.unusedSimpArgs false
set_option maxRecDepth 100000
set_option maxHeartbeats 40000000
namespace Go.Proofs.YtanfebljiblhbaaGreatDoor
open Go Go.RowKit
attribute [local irreducible] idsM filesM linesM relM vertsM edgesM fewL modX lnSeen lnOdd flawsM allM
theorem rsa_any(v:Value)(ps:List LaidP)(w:World)(hv:Pats w v ps)(hz:∀ x∈ps,∀ o∈x.p.ops,o.text.size≤maxLen)(ht:Tab w)
  (hwk:∀ W,Tab W→Calls Tryz.prog 20 #[] W fun e w'=>e=.returned (.bool true)∧Be W w') :
  Calls Tryz.prog 5 #[v] w fun e w'=>e=.returned (.bool true)∧Be w w':=by
 have hfew:=Lh (few20_any v ps 12 (by omega) w hv hz);have HV:=Lh hv;have HZ:=Lh hz;have HWk:=Lh hwk;have HT:=Lh ht;clear hwk ht;cases hf:fewL 12 (ps.map (·.p)) with
 | false =>rw [hf] at hfew;clear hv hz hf;go_enter Tryz.func5,Tryz.ntmps5;go_wp2_with fail;refine hfew.out.mono ?_;rintro e w1 ⟨rfl,hb1⟩;have HB1:=Lh hb1;have HT1:=Lh (HT.o.over hb1);clear hb1 hfew;unfold b01;go_wp2_with fail;refine(HWk.o _ HT1.o).mono ?_;rintro e w2 ⟨rfl,hb2⟩;have HB2:=Lh (bvo HB1.o hb2);clear hb2;go_wp2;go_ret;exact⟨rfl,HB2.o⟩
 | true =>
  rw [hf] at hfew;have HF:=Lh hf;have hpl:ps.length≤12:=by have:=fewL_len hf;simpa using this
  clear hv hz hf;go_enter Tryz.func5,Tryz.ntmps5;go_wp2_with fail;refine hfew.out.mono ?_;rintro e w2 ⟨rfl,hb1⟩;have HB2:=Lh hb1;clear hb1 hfew;unfold b01;go_wp2_with fail;refine(build_any v ps 12 (by omega) _ (HV.o.over HB2.o) HF.o).mono ?_;rintro e w3 ⟨b,bv,be,n,hn,rfl,hgr⟩;have hwf:=wf_build (ps.map (·.p));have HMP:Hid (patsOf (modX ps)=buildM (ps.map (·.p))):=Lh (modX_pats ps);have HI1:=Lh (few_ids HF.o);have HE1:=Lh (few_edges HF.o);rw [HMP.o] at HI1 HE1;generalize buildM (ps.map (·.p))=LL at *;obtain⟨_,_,_,hG,hb3⟩:=hgr;have HGI:Hid (GrIs w3 b LL):=Lh ⟨bv,be,n,hG⟩;have HW:=Lh hwf;have HB3:=Lh (bvo HB2.o hb3);clear hG hb3 hn hwf;go_wp2_with fail;refine(rmodel_any v ps _ (HV.o.over HB3.o) (by omega) (fun y hy=>Nat.le_trans (fewL_ops HF.o (List.mem_map.2 ⟨y,hy,rfl⟩)).1 (by omega)) (fun y hy=>Nat.le_trans (fewL_deps23 HF.o (List.mem_map.2 ⟨y,hy,rfl⟩)) (by omega)) HZ.o).mono ?_;rintro e w4 ⟨mv,rfl,hpm,hb4⟩;obtain⟨a6,c6,hmv,h61,h62,h63⟩:=hpm.1.at encPat_len;unfold maxLen at h62;have hml:(modX ps).length≤300:=by have:=modX_few (xs:=ps);omega
  obtain⟨n6,hn6⟩:∃ n,(modX ps).length=n:=⟨_,rfl⟩;rw [hn6] at hmv h61;subst hmv;have HPM:=Lh hpm;have HML:=Lh hml;have HB4:=Lh (bvo HB3.o hb4);have HGI4:=Lh (HGI.o.over hb4);clear hpm hb4 h63 hn6 hml;go_upto_region 4 with fail;have HX5:=Lh (anw w4 #[.slice a6 n6 c6] 33);have HB45:=Lh (bnew (w:=w4) (.cells #[.slice a6 n6 c6] 33));have HB5:=Lh (HB4.o.alloc HB4.o.size (.cells #[.slice a6 n6 c6] 33));generalize w4.alloc (.cells #[.slice a6 n6 c6] 33)=w5 at *;have HGI5:=Lh (HGI4.o.over HB45.o);have HPM5:=Lh (HPM.o.over HB45.o);have HT5:=Lh (HT.o.over HB5.o);have HWX:Hid (WfG (patsOf (modX ps))):=Lh (by rw [HMP.o];exact HW.o);have HOL:Hid (∀ x∈modX ps,x.p.ops.length≤260):=Lh fun x hx=>Nat.le_trans (wf_len HWX.o x.p (List.mem_map.2 ⟨x,hx,rfl⟩)) (by omega);have HIX:Hid ((idsM (patsOf (modX ps))).length≤720):=Lh (by rw [HMP.o];exact HI1.o);have HEX:Hid ((edgesM (patsOf (modX ps))).length≤720):=Lh (by rw [HMP.o];exact HE1.o);have HTr:Hid (∀ W,Be w5 W→Calls Tryz.prog 22 #[.pointer (some ⟨b,0,none⟩)] W (TreeRes W LL)):=Lh fun W hb=>rtree_any b LL W (HGI5.o.over hb) HW.o (by have:=HI1.o;omega) (by have:=HE1.o;omega) (HT5.o.over hb);have HFl:Hid (∀ W,Be w5 W→Calls Tryz.prog 25 #[.pointer (some ⟨b,0,none⟩)] W (OwnRes encFl 4 129 W (flawsM LL))):=Lh fun W hb=>rflaws_any b LL W (HGI5.o.over hb) HW.o (by have:=HI1.o;omega) (by have:=HE1.o;omega) (HT5.o.over hb);have HRT:Hid (∀ W,Be w5 W→Calls Tryz.prog 23 #[.agg #[.slice a6 n6 c6]] W (RTreeRes W LL)):=Lh fun W hb=>by have:=rtree25_any _ (modX ps) W (HPM5.o.over hb) HML.o HOL.o HWX.o (by have:=HIX.o;omega) (by have:=HEX.o;omega);rw [HMP.o] at this;exact this
  have HRF:Hid (∀ W,Be w5 W→Calls Tryz.prog 26 #[.agg #[.slice a6 n6 c6]] W fun e w'=>∃ p c,e=.returned (.slice p (flawsM LL).length c)∧GRow encFl 4 w' (.slice p (flawsM LL).length c) (flawsM LL)∧Be W w'):=Lh fun W hb=>by have:=rflaws25_any _ (modX ps) W (HPM5.o.over hb) HML.o HOL.o HWX.o (by have:=HIX.o;omega) (by have:=HEX.o;omega);rw [HMP.o] at this;refine this.mono ?_;rintro e w' ⟨v,rfl,ho,hb'⟩;obtain⟨p,c,rfl⟩:=own_sl ho;exact⟨p,c,rfl,ho.row,hb'⟩
  obtain⟨x0,sx⟩:=HX5.o.c1
  by_cases hnf:(flawsM LL).length=0
  ·
   have d1:(((flawsM LL).length:Int) == 0)=true:=(by simp [hnf]);have HCn:Hid (∀ W,Be w5 W→Calls Tryz.prog 27 #[.pointer (some ⟨b,0,none⟩)] W fun e w'=>e=.returned (.bool true)∧Be W w'):=Lh fun W hb=>by have:=rclean_any b LL W (HGI5.o.over hb) HW.o (by have:=HI1.o;omega) (by have:=HE1.o;omega) (HT5.o.over hb);rw [decide_eq_true hnf] at this;exact this
   clear hnf;refine wlo 26 fun hcur=>?_;(repeat(first|refine lxq ?_|(refine lxl rfl ?_;go_wp2_with (first|(go_at_call 22;(with_reducible refine(HTr.o _ hcur).mono ?_);rintro e wA ⟨vA,tA,rfl,hiA,hfA,hb⟩;have HiA:=Lh hiA;have HFA:=Lh hfA.frow;replace hcur:=bvo hcur hb;clear hb hiA hfA)|(go_at_call 23;(with_reducible refine(HRT.o _ hcur).mono ?_);rintro e wB ⟨vB,tB,rfl,hiB,hfB,hb⟩;have hee:=tree_one hiB HiA.o;subst hee;have HFB:=Lh hfB.frow;have HFA2:=Lh (HFA.o.over hb);replace hcur:=bvo hcur hb;clear hb hiB hfB)|(go_at_call 21;(with_reducible refine(rsame_any vA vB _ _ _ HFA2.o HFB.o).mono ?_);rw [sameT_t rfl];rintro e wC ⟨rfl,hb⟩;have hcur:=bvo hcur hb)|(go_at_call 25;(with_reducible refine(HFl.o _ hcur).mono ?_);rintro e wD ⟨vD,rfl,hoD,hb⟩;have HOD:=Lh hoD.row;replace hcur:=bvo hcur hb;clear hb hoD)|(go_at_call 26;(with_reducible refine(HRF.o _ hcur).mono ?_);rintro e wE ⟨pE,cE,rfl,hoE,hb⟩;have HOE:=Lh hoE;have HOD2:=Lh (HOD.o.over hb);replace hcur:=bvo hcur hb;clear hb hoE)|(go_at_call 24;(with_reducible refine(flawed_any vD _ _ _ _ HOD2.o HOE.o).mono ?_);rw [decide_eq_true rfl,show numB true=.int .i64 1 from rfl];rintro e wF ⟨rfl,hb⟩;have hcur:=bvo hcur hb)|(go_at_call 27;(with_reducible refine(HCn.o _ hcur).mono ?_);rintro e wG ⟨rfl,hb⟩;have hcur:=bvo hcur hb)|(go_at_call 20;(with_reducible refine(HWk.o _ (HT5.o.over hcur)).mono ?_);rintro e wH ⟨rfl,hb⟩;have hcur:=bvo hcur hb)|(go_at_call 26;(with_reducible refine(HRF.o _ hcur).mono ?_);rintro e wI ⟨pI,cI,rfl,hoI,hb⟩;replace hcur:=bvo hcur hb;clear hb hoI));refine⟨iov hcur,?_⟩)));refine lxe ?_;go_wp2;go_ret;exact⟨rfl,bvo HB5.o hcur⟩
  ·
   have d1:(((flawsM LL).length:Int) == 0)=false:=(by simp [hnf]);have HCn:Hid (∀ W,Be w5 W→Calls Tryz.prog 27 #[.pointer (some ⟨b,0,none⟩)] W fun e w'=>e=.returned (.bool false)∧Be W w'):=Lh fun W hb=>by have:=rclean_any b LL W (HGI5.o.over hb) HW.o (by have:=HI1.o;omega) (by have:=HE1.o;omega) (HT5.o.over hb);rw [decide_eq_false hnf] at this;exact this
   clear hnf;refine wlo 26 fun hcur=>?_;(repeat(first|refine lxq ?_|(refine lxl rfl ?_;go_wp2_with (first|(go_at_call 22;(with_reducible refine(HTr.o _ hcur).mono ?_);rintro e wA ⟨vA,tA,rfl,hiA,hfA,hb⟩;have HiA:=Lh hiA;have HFA:=Lh hfA.frow;replace hcur:=bvo hcur hb;clear hb hiA hfA)|(go_at_call 23;(with_reducible refine(HRT.o _ hcur).mono ?_);rintro e wB ⟨vB,tB,rfl,hiB,hfB,hb⟩;have hee:=tree_one hiB HiA.o;subst hee;have HFB:=Lh hfB.frow;have HFA2:=Lh (HFA.o.over hb);replace hcur:=bvo hcur hb;clear hb hiB hfB)|(go_at_call 21;(with_reducible refine(rsame_any vA vB _ _ _ HFA2.o HFB.o).mono ?_);rw [sameT_t rfl];rintro e wC ⟨rfl,hb⟩;have hcur:=bvo hcur hb)|(go_at_call 25;(with_reducible refine(HFl.o _ hcur).mono ?_);rintro e wD ⟨vD,rfl,hoD,hb⟩;have HOD:=Lh hoD.row;replace hcur:=bvo hcur hb;clear hb hoD)|(go_at_call 26;(with_reducible refine(HRF.o _ hcur).mono ?_);rintro e wE ⟨pE,cE,rfl,hoE,hb⟩;have HOE:=Lh hoE;have HOD2:=Lh (HOD.o.over hb);replace hcur:=bvo hcur hb;clear hb hoE)|(go_at_call 24;(with_reducible refine(flawed_any vD _ _ _ _ HOD2.o HOE.o).mono ?_);rw [decide_eq_true rfl,show numB true=.int .i64 1 from rfl];rintro e wF ⟨rfl,hb⟩;have hcur:=bvo hcur hb)|(go_at_call 27;(with_reducible refine(HCn.o _ hcur).mono ?_);rintro e wG ⟨rfl,hb⟩;have hcur:=bvo hcur hb)|(go_at_call 20;(with_reducible refine(HWk.o _ (HT5.o.over hcur)).mono ?_);rintro e wH ⟨rfl,hb⟩;have hcur:=bvo hcur hb)|(go_at_call 26;(with_reducible refine(HRF.o _ hcur).mono ?_);rintro e wI ⟨pI,cI,rfl,hoI,hb⟩;replace hcur:=bvo hcur hb;clear hb hoI));refine⟨iov hcur,?_⟩)));refine lxe ?_;go_wp2;go_ret;exact⟨rfl,bvo HB5.o hcur⟩
end Go.Proofs.YtanfebljiblhbaaGreatDoor
set_option maxRecDepth 100000
set_option maxHeartbeats 40000000
namespace Go.Proofs.YtanfebljiblhbaaGreatDoor
open Go Go.ChangeShapes Go.WideShapes Go.ChangeAt Go.RowKit
open Go.ChangeMaps (open_string)
theorem own:ownKnob Tryz.prog.godebug=none:=by kernel_rfl
theorem gTab : Tryz.prog.globalNamed "internal/strconv.uint64pow10" = some 0 := by kernel_rfl
theorem gTabT:(Tryz.prog.globals[0]?).map (·.type)=some 334:=by kernel_rfl
theorem tab_eq:(Rows.laid_internal_strconv_uint64pow10:DataW Unit)=Lib.tabData .u64 Lib.pow10Tab:=by kernel_rfl
theorem tab_of{W:World}(hL:laidMet Tryz.prog Rows.renderSaysRow.laid W):Tab W:=by have h := hL.filter (fun x => x.1 == "internal/strconv.uint64pow10");rw [show Rows.renderSaysRow.laid.filter (fun x => x.1 == "internal/strconv.uint64pow10") = [("internal/strconv.uint64pow10", Rows.laid_internal_strconv_uint64pow10)] from by kernel_rfl, tab_eq] at h;exact Lib.tabIs_of_head gTab gTabT Tryz.underlying334 Tryz.underlying248 (by kernel_rfl) (by kernel_rfl) h
theorem contract_RenderSays(H:Type)(enc:TypeId × Value→H)(W:World)(base:Nat)(args:Array Value)(ds gs:List (DataW H))(before:List MemPlace)
  (hval:∀(j:Nat) t v,Tryz.f5.params[j]? = some t→args[j]? = some v→Value.okWide Tryz.prog W .any base t v)
  (hW:DataW.Whole enc Tryz.prog Tryz.f5.params.toList Rows.renderSaysSpec.vars false W args.toList ds gs before) (hL:laidMet Tryz.prog Rows.renderSaysRow.laid W) :
  Calls Tryz.prog 5 args W fun e W'=>∃ v,e=.returned v∧Rows.renderSaysSpec.post enc Tryz.prog Tryz.f5 false true false false W args v W':=by have hW':=hW;obtain⟨p,q,hA0,hV,rfl,hfz,hnd⟩:=hW;have hA:DataW.TrodAll enc Tryz.prog W 0 (fun _=>true) true Tryz.f5.params.toList args.toList ds p:=hA0;rw [Tryz.params5] at hA hval;obtain⟨v0,d0,rfl,rfl,h0⟩:=trodAll_one hA;obtain⟨rfl,rfl⟩:=trodVars_none hV;obtain⟨ps,hp,hz⟩:=pats_arg (hval 0 22 v0 rfl rfl) h0;refine(rsa_any v0 ps W hp hz (tab_of hL) works25_any).mono fun e W' ⟨he,hb⟩=>⟨_,he,?_⟩;exact law_post (by kernel_rfl) Tryz.underlying4 rfl laidOut (by kernel_rfl) rfl hW' hb
def putCells(cs:Array Value):Obj→Obj
 | .cells _ t fr=>.cells cs t fr
 | o=>o
def cells_laid_math_bits_deBruijn32tab:Array Value:=#[.int .u8 0,.int .u8 1,.int .u8 28,.int .u8 2,.int .u8 29,.int .u8 14,.int .u8 24,.int .u8 3,.int .u8 30,.int .u8 22,.int .u8 20,.int .u8 15,.int .u8 25,.int .u8 17,.int .u8 4,.int .u8 8,.int .u8 31,.int .u8 27,.int .u8 13,.int .u8 23,.int .u8 21,.int .u8 19,.int .u8 16,.int .u8 7,.int .u8 26,.int .u8 12,.int .u8 18,.int .u8 6,.int .u8 11,.int .u8 5,.int .u8 10,.int .u8 9]
def cells_laid_math_bits_deBruijn64tab:Array Value:=#[.int .u8 0,.int .u8 1,.int .u8 56,.int .u8 2,.int .u8 57,.int .u8 49,.int .u8 28,.int .u8 3,.int .u8 61,.int .u8 58,.int .u8 42,.int .u8 50,.int .u8 38,.int .u8 29,.int .u8 17,.int .u8 4,.int .u8 62,.int .u8 47,.int .u8 59,.int .u8 36,.int .u8 45,.int .u8 43,.int .u8 51,.int .u8 22,.int .u8 53,.int .u8 39,.int .u8 33,.int .u8 30,.int .u8 24,.int .u8 18,.int .u8 12,.int .u8 5,.int .u8 63,.int .u8 55,.int .u8 48,.int .u8 27,.int .u8 60,.int .u8 41,.int .u8 37,.int .u8 16,.int .u8 46,.int .u8 35,.int .u8 44,.int .u8 21,.int .u8 52,.int .u8 32,.int .u8 23,.int .u8 11,.int .u8 54,.int .u8 26,.int .u8 40,.int .u8 15,.int .u8 34,.int .u8 20,.int .u8 31,.int .u8 10,.int .u8 25,.int .u8 14,.int .u8 19,.int .u8 9,.int .u8 13,.int .u8 8,.int .u8 7,.int .u8 6]
def cells_laid_internal_strconv_uint64pow10:Array Value:=#[.int .u64 1,.int .u64 10,.int .u64 100,.int .u64 1000,.int .u64 10000,.int .u64 100000,.int .u64 1000000,.int .u64 10000000,.int .u64 100000000,.int .u64 1000000000,.int .u64 10000000000,.int .u64 100000000000,.int .u64 1000000000000,.int .u64 10000000000000,.int .u64 100000000000000,.int .u64 1000000000000000,.int .u64 10000000000000000,.int .u64 100000000000000000,.int .u64 1000000000000000000,.int .u64 10000000000000000000]
noncomputable def laidWorld(os:Os):World:=
 {(World.holding Tryz.prog os ⟨#[],#[],[]⟩) with heap:=((((World.holding Tryz.prog os ⟨#[],#[],[]⟩).heap.modify 2 (putCells cells_laid_math_bits_deBruijn32tab)).modify 3 (putCells cells_laid_math_bits_deBruijn64tab)).modify 0 (putCells cells_laid_internal_strconv_uint64pow10))}
theorem plain_of{b:Bool}{f0:FuncId}{fn0:Func}{name:String}(h0:Tryz.prog.funcNamed name=some f0)(h1:Tryz.prog.funcs[f0]? = some fn0)(h2:fn0.params.toList.all (fun t => !Tryz.prog.wantsStandIn t)=true)
  (h3:b=Tryz.pinned.checked.prog.looks []) (f:FuncId) (fn:Func) (hf:Tryz.pinned.checked.prog.funcNamed name=some f) (hfn:Tryz.pinned.checked.prog.funcs[f]? = some fn) :
  b=Tryz.pinned.checked.prog.looks []∧∀(j:Nat) t,fn.params[j]? = some t→Tryz.pinned.checked.prog.wantsStandIn t=false:=by
 obtain rfl:f=f0:=Option.some.inj ((show Tryz.prog.funcNamed name=some f0 from h0).symm.trans hf) |>.symm
 obtain rfl:fn=fn0:=(Option.some.inj (h1.symm.trans hfn)).symm;refine⟨h3,fun j t ht => ?_⟩;have:=List.all_eq_true.1 h2 t (by simpa using Array.mem_of_getElem? ht);show Tryz.prog.wantsStandIn t=false;simpa using this
namespace fnRenderSays
theorem laid_met(os:Os):laidMet Tryz.prog Rows.renderSaysRow.laid ((laidWorld os).forCall (fun _ _=>0) ⟨#[],#[.slice none 0 0],[]⟩).memory:=
 laidMet_of_run' 8 (by kernel_rfl) (by kernel_rfl)
theorem reads(os:Os){H:Type}(enc:TypeId × Value→H):∃ places,DataW.whole enc Tryz.prog ((laidWorld os).forCall (fun _ _=>0) ⟨#[],#[.slice none 0 0],[]⟩).memory Tryz.f5.params.toList Rows.renderSaysSpec.vars false (#[.slice none 0 0]:Array Value).toList 8=some ([.nil],[],places):=
 ⟨[],by kernel_rfl⟩
theorem lifted(os:Os)(started:os.Started)(H:Type)(enc:TypeId × Value→H)(F:Stop.Interp) :
  ReturnsInHanded {} Tryz.checked os 5 .any ((OpenSpec.ofChange Rows.renderSaysSpec).preRow enc Tryz.prog Tryz.f5 Rows.renderSaysRow.domain false Rows.renderSaysRow.laid) (((OpenSpec.ofChange Rows.renderSaysSpec).at F).post enc Tryz.prog Tryz.f5 false true false false):=by
 obtain⟨places,hx⟩:=reads os enc;refine returnsInHanded_of_row (C:=Tryz.checked) (s:=OpenSpec.ofChange Rows.renderSaysSpec) own started (by kernel_rfl) Tryz.func5
  (witness_row_at (enc:=enc) (C:=Tryz.checked) false (laidWorld os) #[.slice none 0 0] rfl (by kernel_rfl) (by kernel_rfl) (by kernel_rfl)
   (OpenSpec.preRow_of_cond 8 hx (by kernel_rfl) (fun k hk=>by cases hk) (by kernel_rfl) (laid_met os))) ?_
 intro W base args ds gs before hval hW _ _ _ hL _ _;exact contract_RenderSays H enc W base args ds gs before hval hW hL
theorem c_laid:laidOutB Tryz.pinned.checked.prog=true:=by kernel_rfl
theorem c_maps:mapsRowed Tryz.pinned.checked.prog=true:=by kernel_rfl
theorem c_in:(Rows.renderSaysRow.inPlace == Tryz.pinned.checked.prog.inPlace 5)=true:=by kernel_rfl
theorem c_unf:(Rows.renderSaysRow.unfollowed == Tryz.pinned.checked.prog.unfollowed 5)=true:=by kernel_rfl
theorem c_rec:(Rows.renderSaysRow.recurses == Tryz.pinned.checked.prog.recurses 5)=true:=by kernel_rfl
theorem c_nam:(Rows.renderSaysRow.named == Tryz.pinned.checked.prog.varsNamed 5)=true:=by kernel_rfl
theorem c_keys:(Rows.renderSaysRow.plainKeys == Tryz.pinned.checked.prog.plainKeys)=true:=by kernel_rfl
theorem c_heard:Tryz.pinned.checked.prog.stopsHeard=true:=by kernel_rfl
theorem c_may:Tryz.pinned.checked.prog.mayEnter=true:=by kernel_rfl
theorem c_lift:(Rows.renderSaysRow.lifted == Tryz.pinned.checked.prog.liftsFinal)=true:=by kernel_rfl
theorem closed:joinedFacts Tryz.pinned.checked.prog 5 Tryz.f5 (OpenSpec.ofChange Rows.renderSaysSpec).bare Rows.renderSaysRow=true:=by
 unfold joinedFacts;simp only [Bool.and_eq_true]
 repeat' apply And.intro
 all_goals with_reducible first|exact c_laid|exact c_maps|exact c_in|exact c_unf|exact c_rec|exact c_nam|exact c_keys|exact c_heard|exact c_may|exact c_lift|kernel_rfl
theorem said:Rows.RenderSaysSaid:=
 OpenClaim.holds_of_cond 5 Tryz.f5 rfl rfl rfl rfl rfl rfl rfl ⟨rfl,rfl,rfl,rfl,rfl⟩ rfl rfl rfl rfl rfl (by kernel_rfl) Tryz.func5 closed
  (of_decide_eq_true (by kernel_rfl)) (by unfold Func.isWrapper;first|(rw [if_pos (by decide +kernel)];kernel_rfl)|(rw [if_neg (by decide +kernel)];exact⟨rfl,rfl⟩))
  (fun os started H enc _ F=>by rw [OpenClaim.pre_eq_preRow];exact lifted os started H enc F)
theorem card:Rows.RenderSaysCardSaid:=
 Claim7.holds_tied_plain_at .later [] _ _ _ _ said (fun _ h => by cases h) (by kernel_rfl) (fun _ h => by cases h) renderSays_row_tie rfl ⟨rfl, rfl⟩ (by kernel_rfl) rfl (plain_of (name := "bruit/bruitlaw25.RenderSays") (by kernel_rfl) Tryz.func5 (by kernel_rfl) (by kernel_rfl)) (by kernel_rfl)
end fnRenderSays
end Go.Proofs.YtanfebljiblhbaaGreatDoor
