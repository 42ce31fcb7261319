/- What is proved: PlanSays, for every input; of the listed tables the walk needs the powers of ten. -/
import Derived.Test.YtjccmcgglfncdaaGreatDoorPPlB
import Derived.Test.YtjccmcgglfncdaaGreatDoorPPlR
set_option linter.unusedVariables false
set_option linter.unusedSimpArgs false
set_option maxRecDepth 100000
set_option maxHeartbeats 40000000
namespace Go.Proofs.YtjccmcgglfncdaaGreatDoor
open Go Go.RowKit
section
variable{m:Nat}{id:PidM}
theorem stepA_small{l:List VertM}{file:VidM}{c:Nat}:∀(zs:List (Int × ByteArray)) (s:List OpM × List VidM),(∀ z∈zs,z.2.size≤m)→(∀ o∈s.1,o.text.size≤m)→∀ o∈(zs.foldl (stepA l file id c) s).1,o.text.size≤m
 | [],_,_,h=>h
 | z :: zs,s,hz,h=>by
  rw [List.foldl_cons];refine stepA_small zs _ (fun y hy=>hz y (List.mem_cons_of_mem _ hy)) fun o ho => ?_;unfold stepA at ho;split at ho
  · exact h o ho
  rcases List.mem_append.1 ho with ho|ho
  · exact h o ho
  rw [List.mem_singleton.1 ho];exact hz z (List.mem_cons_self ..)
theorem linesOps_small(l:List VertM)(R:List (Nat × Nat))(file:VidM)(id:PidM)(c:Nat)(want:List ByteArray)(hw:∀ s∈want,s.size≤m):∀ o∈linesOps l R file id c want,o.text.size≤m:=by
 unfold linesOps editM;intro o ho;simp only at ho;rcases List.mem_append.1 ho with ho|ho
 ·
  unfold addsTo at ho;refine stepA_small _ _ (fun z hz => ?_) (fun o ho => ?_) o ho
  · have h1:=List.mem_of_mem_take hz;have h2:z.2∈want:=(List.of_mem_zip (a:=z.1) (b:=z.2) h1).2;exact hw _ h2
  unfold killsE at ho;obtain⟨i,_,rfl⟩:=List.mem_map.1 ho;exact Nat.zero_le _
 obtain⟨j,_,ho⟩:=List.mem_flatMap.1 ho;unfold edgesE at ho;split at ho
 · rw [List.mem_singleton.1 ho];exact Nat.zero_le _
 cases ho
theorem killsTo_small(L:List PatchM)(t:List FileM)(k m:Nat):∀ o∈killsTo L t k,o.text.size≤m:=by
 intro o ho;unfold killsTo at ho;obtain⟨n,_,ho⟩:=List.mem_flatMap.1 ho;unfold killsN at ho;split at ho
 · rw [List.mem_singleton.1 ho];exact Nat.zero_le _
 obtain⟨v,_,rfl⟩:=List.mem_map.1 ho;exact Nat.zero_le _
theorem edFold_small{L:List PatchM}{t:List FileM}(ht:∀ f∈t,∀ s∈f.lines,s.size≤m):∀(ns:List NameM) (out:List OpM),(∀ o∈out,o.text.size≤m)→∀ o∈ns.foldl (plEdStep L t id) out,o.text.size≤m
 | [],_,h=>h
 | n :: ns,out,h=>by
  rw [List.foldl_cons];refine edFold_small ht ns _ fun o ho => ?_;unfold plEdStep at ho;split at ho
  · exact h o ho
  rcases List.mem_append.1 ho with ho|ho
  · exact h o ho
  refine linesOps_small _ _ _ _ _ _ (fun s hs => ?_) o ho;rw [List.getD_eq_getElem?_getD] at hs;cases hg:t[(findT t n.name).toNat]? with
  | none=>rw [hg] at hs;cases hs
  | some f=>rw [hg] at hs;exact ht f (List.mem_of_getElem? hg) s hs
theorem newFold_small{ns:List NameM}:∀(t:List FileM) (out:List OpM),(∀ f∈t,f.name.size≤m∧∀ s∈f.lines,s.size≤m)→(∀ o∈out,o.text.size≤m)→∀ o∈t.foldl (newStep ns id) out,o.text.size≤m
 | [],_,_,h=>h
 | f :: t,out,ht,h=>by
  rw [List.foldl_cons];refine newFold_small t _ (fun g hg=>ht g (List.mem_cons_of_mem _ hg)) fun o ho => ?_;obtain⟨h1,h2⟩:=ht f (List.mem_cons_self ..);unfold newStep at ho;split at ho
  · exact h o ho
  rcases List.mem_append.1 ho with ho|ho
  · exact h o ho
  unfold fileOps at ho;rcases List.mem_cons.1 ho with rfl|ho
  · exact Nat.zero_le _
  rcases List.mem_cons.1 ho with rfl|ho
  · exact h1
  exact linesOps_small _ _ _ _ _ _ h2 o ho
theorem planM_small(L:List PatchM)(t:List FileM)(id:PidM)(ht:∀ f∈t,f.name.size≤m∧∀ s∈f.lines,s.size≤m):∀ o∈planM L t id,o.text.size≤m:=by unfold planM newTo;rw [List.take_length];refine newFold_small t _ ht ?_;unfold edTo;exact edFold_small (fun f hf=>(ht f hf).2) _ _ (killsTo_small L t _ m)
theorem planR_small(L:List PatchM)(t:List FileM)(id:PidM)(hz:SzT t):∀ o∈(planR L t id).1,o.text.size≤maxLen:=by
 intro o ho;unfold planR at ho;split at ho
 ·
  split at ho
  · cases ho
  split at ho
  · cases ho
  exact planM_small L t id (fun f hf=>⟨(hz f hf).1,(hz f hf).2.2⟩) o ho
 cases ho
theorem planR_len(L:List PatchM)(t:List FileM)(id:PidM):(planR L t id).1.length≤200:=by
 unfold planR;split
 ·
  split
  · simp
  split
  · simp
  simp only;omega
 simp
end
section
attribute [local irreducible] vecL
theorem gvec_any(b:Nat)(L:List PatchM)(w:World)(hg:GrIs w b L):Calls Tryz.prog 20 #[.pointer (some ⟨b,0,none⟩)] w fun e w'=>e=.returned (vecV (vecM L))∧Be w w':=by obtain⟨bv,be,n,hG⟩:=hg;have HG:=Lh hG;generalize vecM L=f at *;clear hG;go_enter Tryz.func20,Tryz.ntmps20;go_upto_region 1 with fail;refine code_gen (fun w0=>∃ zs:List Value,zs.length=64∧Arr w0 w.heap.size zs∧Be w w0) (by refine⟨_,?_,anw w _ _,bnew _⟩;rfl) ?_;rintro w0 ⟨zs,hzl,hR,hB⟩;have HR:=Lh hR;have HB:=Lh hB;have HZL:=Lh hzl;have HA:Hid (Arr w0 b (vecL f++[.map (some bv),.map (some be)])):=Lh (HG.o.over HB.o).arr;have sb:=HA.o.lt;clear hR hB hzl;go_wp2_with (first|((with_reducible show wpList _ _ _ ({dst:=_,op:=.load _ _,type:=_,pos:=_,after:=_,guard:=_} :: _) _ _);refine wpList_load_part agg_vec size_vec rfl _ rfl b (vecL f) [.map (some bv),.map (some be)] HA.o rfl (vecL_len f) ?_)|(refine wpList_put_arr rowVec rfl _ _ rfl _ _ _ HR.o rfl rfl HZL.o (vecL_len _) (vecL_one _) ?_;intro w9 HV9 ho9 hb9 hs9;clear hs9));exact bodyPost_ret (v:=.agg (vecL f).toArray) (results_arr rowVec rfl HV9 rfl (vecL_len _)) rfl ⟨rfl,hb9 _ _ (Nat.le_refl _) HB.o⟩
end
abbrev zPat:Value:=.agg #[.int .u8 0,.int .u16 0,.slice none 0 0,.slice none 0 0]
def PatIs(w:World)(v:Value):Option PatchM→Prop
 | none=>v=zPat
 | some p=>∃ dv ov,v=patV p.id dv ov∧GRow encPid 2 w dv p.deps∧GRow encOp 8 w ov p.ops
noncomputable def recI(L:List PatchM)(t:List FileM)(id:PidM):Option PatchM × Nat:=
 if id=noPid then(none,1)
 else if(planR L t id).2=0 then(if goodQ id (depsM id (planR L t id).1) (planR L t id).1=true then(some ⟨id,depsM id (planR L t id).1,(planR L t id).1⟩,0) else(none,1))
 else(none,(planR L t id).2)
def RecRes(w:World)(L:List PatchM)(t:List FileM)(id:PidM)(e:Ending)(w':World):Prop:=∃ v,e=.returned (.tuple #[v,.int .i64 ((recI L t id).2:Int)])∧PatIs w' v (recI L t id).1∧Be w w'
def PatOwn(w:World)(B:Nat)(v:Value):Option PatchM→Prop
 | none=>v=zPat
 | some p=>∃ dv ov,v=patV p.id dv ov∧GOwn encPid 2 25 w B dv p.deps∧GOwn encOp 8 76 w B ov p.ops
theorem PatOwn.is{w:World}{B:Nat}{v:Value}:∀ {o:Option PatchM},PatOwn w B v o→PatIs w v o
 | none,h=>h
 | some _,⟨dv,ov,e,h1,h2⟩=>⟨dv,ov,e,h1.row,h2.row⟩
def RecOwn(w:World)(L:List PatchM)(t:List FileM)(id:PidM)(e:Ending)(w':World):Prop:=∃ v,e=.returned (.tuple #[v,.int .i64 ((recI L t id).2:Int)])∧PatOwn w' w.heap.size v (recI L t id).1∧Be w w'
attribute [local irreducible] allM planM linesM relM idsM edgesM planR goodQ depsM vecM nextF recI
theorem precord_own(b:Nat)(L:List PatchM)(au:UInt8)(t:List FileM)(tv:Value)(w:World)(m:Nat)(hg:GrIs w b L)(hw:WfG L)(hil:(idsM L).length≤m)(hm:m*m+m*(m+120)+2000≤3900000)(hm1:1≤m)(hm2:m≤1000)(hel:(edgesM L).length≤1000000)(hll:∀ f,(linesM L f).length≤m)
  (ht:FRow w tv t) (hsz:SzT t) (htab:Tab w) :
  Calls Tryz.prog 15 #[.pointer (some ⟨b,0,none⟩),.int .u8 au.toNat,tv] w (RecOwn w L t (nextF (vecM L) au)):=by
 have HR:=Lh (anw w #[.int .u8 0,.int .u16 0,.slice none 0 0,.slice none 0 0] 44);have HB:=Lh (bnew (w:=w) (.cells #[.int .u8 0,.int .u16 0,.slice none 0 0,.slice none 0 0] 44));have hgl:∀ W,Be w W→GrIs W b L:=fun W h=>hg.over h;have HVc:=Lh (fun W (h:Be w W)=>gvec_any b L W (hg.over h));have HNx:=Lh (fun W=>pnext_any (vecM L) hw.vec au W);have HOp:=Lh (fun(id:PidM) W (h:Be w W)=>pops_any b L id t tv W m (hg.over h) hw hil hm hm1 hm2 hel hll (ht.over h) hsz (htab.over h));obtain⟨id,hid⟩:∃ id,nextF (vecM L) au=id:=⟨_,rfl⟩;rw [hid] at HNx ⊢;have HSm:=Lh (planR_small L t id hsz);have hpl:=planR_len L t id;generalize vecM L=fv at *;clear hg hw hll ht htab hgl hid;unfold pidV at HOp HNx;go_enter Tryz.func15,Tryz.ntmps15;go_upto_region 1 with fail;generalize w.alloc (.cells #[.int .u8 0,.int .u16 0,.slice none 0 0,.slice none 0 0] 44)=w0 at *;go_upto_region 2 with(first|(go_at_call 49;(with_reducible refine(HNx.o _).mono ?_);rintro e w3 ⟨rfl,hb3⟩;have HB3:=Lh (bvo HB2.o hb3);have HR3:=Lh (HR2.o.over hb3);clear hb3)|(go_at_call 20;(with_reducible refine(HVc.o _ HB.o).mono ?_);rintro e w2 ⟨rfl,hb2⟩;have HB2:=Lh (bvo HB.o hb2);have HR2:=Lh (HR.o.over hb2);clear hb2))
 have HP:=Lh (anw w3 (cP id) 25);have HBp:=Lh (bnew (w:=w3) (.cells (cP id) 25));have HR4:=Lh (HR3.o.over HBp.o);have HB4:=Lh (bvo HB3.o HBp.o);generalize w3.alloc (.cells (cP id) 25)=w4 at *;obtain⟨p0,p1,sp⟩:=HP.o.c2
 by_cases hn:id=noPid
 · have en:∀ W,(binOp .eql 25 (.agg (cP id)) (.agg #[.int .u8 0,.int .u16 0])).run Tryz.prog W=.ok (.bool true) W:=fun W=>eql_pid id noPid true (decide_eq_true hn) W;have HI:Hid (recI L t id=(none,1)):=Lh (by unfold recI;rw [if_pos hn]);clear hn;obtain⟨r0,r1,r2,r3,sr⟩:=HR4.o.c4;have rf0:=HR4.o.free 0;have rf1:=HR4.o.free 1;have rf2:=HR4.o.free 2;have rf3:=HR4.o.free 3;have HF:=Lh ((((HR4.o.set 0 (.int .u8 0)).set 1 (.int .u16 0)).set 2 (.slice none 0 0)).set 3 (.slice none 0 0));have hgr:World.grownBy w4 ((((w4.setCell ⟨w.heap.size,0,none⟩ (.int .u8 0)).setCell ⟨w.heap.size,1,none⟩ (.int .u16 0)).setCell ⟨w.heap.size,2,none⟩ (.slice none 0 0)).setCell ⟨w.heap.size,3,none⟩ (.slice none 0 0)) (some w.heap.size):=(gtr (gtr (gtr (gtr (World.grownBy.refl w4 _) (gsc _ _ _)) (gsc _ _ _)) (gsc _ _ _)) (gsc _ _ _));have HBe:=Lh (HB4.o.grown hgr HB4.o.size (fun j hj=>by cases hj;exact Nat.le_refl _));clear hgr;go_wp2_with fail;refine bodyPost_ret (v:=.tuple #[.agg #[.int .u8 0,.int .u16 0,.slice none 0 0,.slice none 0 0],.int .i64 1]) (rasl rowPat rfl HF.o rfl rfl rfl) rfl ?_;unfold RecOwn;rw [HI.o];exact⟨_,rfl,rfl,HBe.o⟩
 have en:∀ W,(binOp .eql 25 (.agg (cP id)) (.agg #[.int .u8 0,.int .u16 0])).run Tryz.prog W=.ok (.bool false) W:=fun W=>eql_pid id noPid false (decide_eq_false hn) W;go_wp2_with fail;refine(HOp.o id w4 HB4.o).mono ?_;rintro e w5 ⟨ov,rfl,ho5,hb5⟩;obtain⟨po,co,e5⟩:=own_sl ho5;subst e5;have HO5:=Lh ho5;have HR5:=Lh (HR4.o.over hb5);have HP5:=Lh (HP.o.over hb5);have HB5:=Lh (bvo HB4.o hb5);clear ho5 hb5 p0 p1 sp en;have HI:Hid (recI L t id=if(planR L t id).2=0 then(if goodQ id (depsM id (planR L t id).1) (planR L t id).1=true then(some ⟨id,depsM id (planR L t id).1,(planR L t id).1⟩,0) else(none,1)) else(none,(planR L t id).2)):=Lh (by unfold recI;rw [if_neg hn]);clear hn;obtain⟨ops,hops⟩:∃ o,(planR L t id).1=o:=⟨_,rfl⟩;obtain⟨cd9,hcd⟩:∃ c,(planR L t id).2=c:=⟨_,rfl⟩;rw [hops] at HO5 HI HSm hpl ⊢;rw [hcd] at HI ⊢;clear hops hcd;obtain⟨no,hno⟩:∃ n,ops.length=n:=⟨_,rfl⟩;rw [hno] at HO5 hpl ⊢;have HNo:=Lh hno;clear hno
 by_cases hc:cd9=0
 rotate_left
 ·
  have dn:((cd9:Int) != 0)=true:=by rw [bne_iff_ne];omega
  have HI2:Hid (recI L t id=(none,cd9)):=Lh (by rw [HI.o,if_neg hc]);clear hc HI;obtain⟨r0,r1,r2,r3,sr⟩:=HR5.o.c4;have rf0:=HR5.o.free 0;have rf1:=HR5.o.free 1;have rf2:=HR5.o.free 2;have rf3:=HR5.o.free 3;have HF:=Lh ((((HR5.o.set 0 (.int .u8 0)).set 1 (.int .u16 0)).set 2 (.slice none 0 0)).set 3 (.slice none 0 0));have hgr:World.grownBy w5 ((((w5.setCell ⟨w.heap.size,0,none⟩ (.int .u8 0)).setCell ⟨w.heap.size,1,none⟩ (.int .u16 0)).setCell ⟨w.heap.size,2,none⟩ (.slice none 0 0)).setCell ⟨w.heap.size,3,none⟩ (.slice none 0 0)) (some w.heap.size):=(gtr (gtr (gtr (gtr (World.grownBy.refl w5 _) (gsc _ _ _)) (gsc _ _ _)) (gsc _ _ _)) (gsc _ _ _));have HBe:=Lh (HB5.o.grown hgr HB5.o.size (fun j hj=>by cases hj;exact Nat.le_refl _));clear hgr;go_wp2_with fail;refine bodyPost_ret (v:=.tuple #[.agg #[.int .u8 0,.int .u16 0,.slice none 0 0,.slice none 0 0],.int .i64 cd9]) (rasl rowPat rfl HF.o rfl rfl rfl) rfl ?_;unfold RecOwn;rw [HI2.o];exact⟨_,rfl,rfl,HBe.o⟩
 subst hc;rw [if_pos rfl] at HI;have HMk:=Lh (pmakeG_any id (.slice po no co) ops w5 HO5.o.row (by have:=HNo.o;omega) HSm.o);unfold pidV at HMk;obtain⟨p0,p1,sp⟩:=HP5.o.c2;go_wp2_with fail;refine HMk.o.mono ?_;rintro e w6 h6;rcases h6 with⟨hgq,pd,cd,po2,co2,rfl,hd6,ho6,hb6⟩|⟨hgq,rfl,hb6⟩
 · have HI2:Hid (recI L t id=(some ⟨id,depsM id ops,ops⟩,0)):=Lh (by rw [HI.o,if_pos hgq]);have HR6:=Lh (HR5.o.over hb6);have HB6:=Lh (bvo HB5.o hb6);have HD6:=Lh hd6;have HO6:=Lh ho6;have HLt:=Lh HR5.o.lt;clear hgq hd6 ho6 hb6 HI p0 p1 sp;obtain⟨r0,r1,r2,r3,sr⟩:=HR6.o.c4;have rf0:=HR6.o.free 0;have rf1:=HR6.o.free 1;have rf2:=HR6.o.free 2;have rf3:=HR6.o.free 3;have HF:=Lh ((((HR6.o.set 0 (.int .u8 id.author.toNat)).set 1 (.int .u16 id.seq.toNat)).set 2 (.slice pd (depsM id ops).length cd)).set 3 (.slice po2 ops.length co2));have hgr:World.grownBy w6 ((((w6.setCell ⟨w.heap.size,0,none⟩ (.int .u8 id.author.toNat)).setCell ⟨w.heap.size,1,none⟩ (.int .u16 id.seq.toNat)).setCell ⟨w.heap.size,2,none⟩ (.slice pd (depsM id ops).length cd)).setCell ⟨w.heap.size,3,none⟩ (.slice po2 ops.length co2)) (some w.heap.size):=(gtr (gtr (gtr (gtr (World.grownBy.refl w6 _) (gsc _ _ _)) (gsc _ _ _)) (gsc _ _ _)) (gsc _ _ _));have HBe:=Lh (HB6.o.grown hgr HB6.o.size (fun j hj=>by cases hj;exact Nat.le_refl _));have hlt:=HLt.o;have HD7:=Lh (gown_keepM HD6.o hgr (fun j hj=>by cases hj;exact hlt));have HO7:=Lh (gown_keepM HO6.o hgr (fun j hj=>by cases hj;exact hlt));clear hgr hlt;go_wp2_with fail;refine bodyPost_ret (v:=.tuple #[.agg #[.int .u8 id.author.toNat,.int .u16 id.seq.toNat,.slice pd (depsM id ops).length cd,.slice po2 ops.length co2],.int .i64 0]) (rasl rowPat rfl HF.o rfl rfl rfl) rfl ?_;unfold RecOwn;rw [HI2.o];exact⟨_,rfl,⟨_,_,rfl,HD7.o.base HB5.o.size,HO7.o.base HB5.o.size⟩,HBe.o⟩
 have HI2:Hid (recI L t id=(none,1)):=Lh (by rw [HI.o,if_neg (by rw [hgq];simp)]);have HR6:=Lh (HR5.o.over hb6);have HB6:=Lh (bvo HB5.o hb6);clear hgq hb6 HI p0 p1 sp;obtain⟨r0,r1,r2,r3,sr⟩:=HR6.o.c4;have rf0:=HR6.o.free 0;have rf1:=HR6.o.free 1;have rf2:=HR6.o.free 2;have rf3:=HR6.o.free 3;have HF:=Lh ((((HR6.o.set 0 (.int .u8 0)).set 1 (.int .u16 0)).set 2 (.slice none 0 0)).set 3 (.slice none 0 0));have hgr:World.grownBy w6 ((((w6.setCell ⟨w.heap.size,0,none⟩ (.int .u8 0)).setCell ⟨w.heap.size,1,none⟩ (.int .u16 0)).setCell ⟨w.heap.size,2,none⟩ (.slice none 0 0)).setCell ⟨w.heap.size,3,none⟩ (.slice none 0 0)) (some w.heap.size):=(gtr (gtr (gtr (gtr (World.grownBy.refl w6 _) (gsc _ _ _)) (gsc _ _ _)) (gsc _ _ _)) (gsc _ _ _));have HBe:=Lh (HB6.o.grown hgr HB6.o.size (fun j hj=>by cases hj;exact Nat.le_refl _));clear hgr;go_wp2_with fail;refine bodyPost_ret (v:=.tuple #[.agg #[.int .u8 0,.int .u16 0,.slice none 0 0,.slice none 0 0],.int .i64 1]) (rasl rowPat rfl HF.o rfl rfl rfl) rfl ?_;unfold RecOwn;rw [HI2.o];exact⟨_,rfl,rfl,HBe.o⟩
theorem precord_any(b:Nat)(L:List PatchM)(au:UInt8)(t:List FileM)(tv:Value)(w:World)(m:Nat)(hg:GrIs w b L)(hw:WfG L)(hil:(idsM L).length≤m)(hm:m*m+m*(m+120)+2000≤3900000)(hm1:1≤m)(hm2:m≤1000)(hel:(edgesM L).length≤1000000)(hll:∀ f,(linesM L f).length≤m)
  (ht:FRow w tv t) (hsz:SzT t) (htab:Tab w) :
  Calls Tryz.prog 15 #[.pointer (some ⟨b,0,none⟩),.int .u8 au.toNat,tv] w (RecRes w L t (nextF (vecM L) au)):=by refine(precord_own b L au t tv w m hg hw hil hm hm1 hm2 hel hll ht hsz htab).mono ?_;rintro e w' ⟨v,he,hp,hb⟩;exact⟨v,he,hp.is,hb⟩
end Go.Proofs.YtjccmcgglfncdaaGreatDoor
