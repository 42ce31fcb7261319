/- The statement of ShowBlocks closed: for every input the law returns true and leaves its arguments as they were. -/
import Derived.Test.YtllcipobiengiaaGreatYBkS
import Derived.Test.YtllcipobiengiaaGreatYPatO
import Derived.Test.YtllcipobiengiaaGreatYCardS
import Derived.Stop.LaidErr
set_option linter.unusedVariables false
set_option linter.unusedSimpArgs false
namespace Go.Proofs.YtllcipobiengiaaGreat
open Go Go.ChangeShapes Go.WideShapes Go.ChangeAt Go.RowKit
open Go.ChangeMaps (open_string)

theorem own:ownKnob Tryz.prog.godebug=none:=by kernel_rfl
section
variable {H : Type} {enc : TypeId × Value → H} {P : Program} {W : World} {base : Nat} {held : Bool}
theorem trod_raw{t k0 k2:TypeId}{f0 f1 f2:Field}(ht:P.underlying t=some (.struct #[f0,f1,f2]))(hC:P.cellsOf t=3)(o0:f0.offset=0)(o1:f1.offset=1)(o2:f2.offset=2)(q0:f0.type=k0)(q1:f1.type=k0)(q2:f2.type=k2)(c0:P.cellsOf k0=1)(c2:P.cellsOf k2=1)
  (u0:P.underlying k0=some (.int .i64)) (u2:P.underlying k2=some (.int .u8)) {n:Nat} {cs:List Value} {x:DataW H × List MemPlace} (h:DataW.trod enc P W base (fun _=>true) held n t cs=some x):∃ p:RawM,cs=encRaw p∧True:=by
 obtain⟨xs,n',_,_,hl,hxl,hf⟩:=DataW.trod_struct ht h
 rw [hC] at hl
 have h0:=hf 0 f0 rfl
 have h1:=hf 1 f1 rfl
 have h2:=hf 2 f2 rfl
 rw [o0,q0,c0] at h0
 rw [o1,q1,c0] at h1
 rw [o2,q2,c2] at h2
 match cs,hl with
 | [a,b,c],_ =>
  have e0:xs[0]? = some (xs[0]'(by rw [hxl];simp)):=List.getElem?_eq_getElem _
  have e1:xs[1]? = some (xs[1]'(by rw [hxl];simp)):=List.getElem?_eq_getElem _
  have e2:xs[2]? = some (xs[2]'(by rw [hxl];simp)):=List.getElem?_eq_getElem _
  obtain⟨z0,hz0,_,_⟩:=DataW.trod_int u0 (h0.trans e0)
  obtain⟨z1,hz1,_,_⟩:=DataW.trod_int u0 (h1.trans e1)
  obtain⟨z2,hz2,_,hw2⟩:=DataW.trod_int u2 (h2.trans e2)
  simp at hz0 hz1 hz2
  obtain⟨x2,rfl⟩:=u8_wf hw2
  exact⟨⟨z0,z1,x2⟩,by rw [hz0,hz1,hz2];rfl,trivial⟩
end
section
variable {H : Type} {enc : TypeId × Value → H} {W : World} {base : Nat} {v : Value} {d : DataW H} {ps : List MemPlace}
set_option maxRecDepth 100000 in
theorem raws_arg(hv:Value.okWide Tryz.prog W .any base 77 v)(h:DataW.Trod enc Tryz.prog W 0 (fun _=>true) true 77 v d ps):∃ xs:List RawM,GRow encRaw 3 W v xs:=by
 obtain⟨a0,len0,cap0,rfl⟩:=okWide_slice Tryz.underlying77 hv
 obtain⟨fuel,hf⟩:=h
 have hf':DataW.trod enc Tryz.prog W 0 (fun _=>true) true fuel 77 [.slice a0 len0 cap0]=some _:=hf
 obtain⟨xs,h1,_⟩:=grow_of_trod (Q:=fun _=>True) encRaw_len (by decide) Tryz.underlying77 (by kernel_rfl) (fun n cs x h=>trod_raw Tryz.underlying145 (by kernel_rfl) rfl rfl rfl rfl rfl rfl (by kernel_rfl) (by kernel_rfl) Tryz.underlying3 Tryz.underlying5 h) hf'
 exact⟨xs,h1⟩
set_option maxRecDepth 100000 in
theorem u8_arg(hv:Value.okWide Tryz.prog W .any base 5 v)(h:DataW.Trod enc Tryz.prog W 0 (fun _=>true) true 5 v d ps):∃ b:UInt8,v=.int .u8 b.toNat:=by
 obtain⟨z,rfl⟩:=okWide_int Tryz.underlying5 hv
 obtain⟨fuel,hf⟩:=h
 have hf':DataW.trod enc Tryz.prog W 0 (fun _=>true) true fuel 5 [.int .u8 z]=some _:=hf
 obtain⟨z',hz,_,hw⟩:=DataW.trod_int Tryz.underlying5 hf'
 simp at hz
 subst hz
 obtain⟨b,rfl⟩:=u8_wf hw
 exact⟨b,rfl⟩
end
set_option maxRecDepth 100000 in
theorem contract_ShowBlocks(H:Type)(enc:TypeId × Value→H)(W:World)(base:Nat)(args:Array Value)(ds gs:List (DataW H))(before:List MemPlace)
  (hval:∀(j:Nat) t v,Tryz.f7.params[j]? = some t→args[j]? = some v→Value.okWide Tryz.prog W .any base t v)
  (hW:DataW.Whole enc Tryz.prog Tryz.f7.params.toList Rows.showBlocksSpec.vars false W args.toList ds gs before) :
  Calls Tryz.prog 7 args W fun e W'=>∃ v,e=.returned v∧Rows.showBlocksSpec.post enc Tryz.prog Tryz.f7 false true false false W args v W':=by
 have hW':=hW
 obtain⟨p,q,hA0,hV,rfl,hfz,hnd⟩:=hW
 have hA:DataW.TrodAll enc Tryz.prog W 0 (fun _=>true) true Tryz.f7.params.toList args.toList ds p:=hA0
 rw [Tryz.params7] at hA hval
 obtain⟨v0,v1,v2,d0,d1,d2,p0,p1,p2,rfl,rfl,rfl,h0,h1,h2⟩:=trodAll_three hA
 obtain⟨rfl,rfl⟩:=trodVars_none hV
 obtain⟨ps,hp,hz⟩:=pats_arg (hval 0 22 v0 rfl rfl) h0
 obtain⟨raws,hr⟩:=raws_arg (hval 1 77 v1 rfl rfl) h1
 obtain⟨k8,rfl⟩:=u8_arg (hval 2 5 v2 rfl rfl) h2
 refine(bks_any v0 v1 ps raws k8 W hp hz hr works23_any).mono fun e W' ⟨he,hb⟩=>⟨_,he,?_⟩
 exact law_post (by kernel_rfl) Tryz.underlying4 rfl laidOut (by kernel_rfl) rfl hW' hb

noncomputable def witWorld(os:Os):World:=World.holding Tryz.prog os ⟨#[],#[],[]⟩
namespace fnShowBlocks
def wit:Array Value:=#[.slice none 0 0,.slice none 0 0,.int .u8 0]
set_option maxRecDepth 100000 in
theorem laid_met(os:Os):laidMet Tryz.prog Rows.showBlocksRow.laid ((witWorld os).forCall (fun _ _=>0) ⟨#[],wit,[]⟩).memory:=
 laidMet_of_run' 8 (by kernel_rfl) (by kernel_rfl)
set_option maxRecDepth 100000 in
theorem reads(os:Os){H:Type}(enc:TypeId × Value→H):∃ places,DataW.whole enc Tryz.prog ((witWorld os).forCall (fun _ _=>0) ⟨#[],wit,[]⟩).memory Tryz.f7.params.toList Rows.showBlocksSpec.vars false wit.toList 8=some ([.nil,.nil,.lit (.int .u8 0)],[],places):=
 ⟨[],by kernel_rfl⟩
set_option maxRecDepth 100000 in
theorem lifted(os:Os)(started:os.Started)(H:Type)(enc:TypeId × Value→H)(F:Stop.Interp) :
  ReturnsInHanded {} Tryz.checked os 7 .any ((OpenSpec.ofChange Rows.showBlocksSpec).preRow enc Tryz.prog Tryz.f7 Rows.showBlocksRow.domain false Rows.showBlocksRow.laid) (((OpenSpec.ofChange Rows.showBlocksSpec).at F).post enc Tryz.prog Tryz.f7 false true false false):=by
 obtain⟨places,hx⟩:=reads os enc
 refine returnsInHanded_of_row (C:=Tryz.checked) (s:=OpenSpec.ofChange Rows.showBlocksSpec) own started (by kernel_rfl) Tryz.func7
  (witness_row_at (enc:=enc) (C:=Tryz.checked) false (witWorld os) wit rfl (by kernel_rfl) (by kernel_rfl) (by kernel_rfl)
   (OpenSpec.preRow_of_cond 8 hx (by kernel_rfl) (fun k hk=>by cases hk) (by kernel_rfl) (laid_met os))) ?_
 intro W base args ds gs before hval hW _ _ _ hL _ _
 exact contract_ShowBlocks H enc W base args ds gs before hval hW
theorem said:Rows.ShowBlocksSaid:=
 OpenClaim.holds_of_cond 7 Tryz.f7 rfl rfl rfl rfl rfl rfl rfl ⟨rfl,rfl,rfl,rfl,rfl⟩ rfl rfl rfl rfl rfl (by kernel_rfl) Tryz.func7 (by kernel_rfl)
  (of_decide_eq_true (by kernel_rfl)) (by unfold Func.isWrapper;first|(rw [if_pos (by decide +kernel)];kernel_rfl)|(rw [if_neg (by decide +kernel)];exact⟨rfl,rfl⟩))
  (fun os started H enc _ F=>by rw [OpenClaim.pre_eq_preRow];exact lifted os started H enc F)
end fnShowBlocks

end Go.Proofs.YtllcipobiengiaaGreat
