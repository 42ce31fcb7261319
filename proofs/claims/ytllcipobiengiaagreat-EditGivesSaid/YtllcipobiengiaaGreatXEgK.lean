/- The statement of EditGives closed: for every input the law returns true and leaves its arguments as they were. -/
import Derived.Test.YtllcipobiengiaaGreatXEgZ
import Derived.Test.YtllcipobiengiaaGreatXPatO
import Derived.Test.YtllcipobiengiaaGreatXCardS
import Derived.Stop.LaidErr
set_option linter.unusedVariables false
set_option linter.unusedSimpArgs false
namespace Go.Proofs.YtllcipobiengiaaGreat
open Go Go.ChangeShapes Go.WideShapes Go.ChangeAt Go.RowKit
open Go.ChangeMaps (open_string)

theorem own:ownKnob Tryz.prog.godebug=none:=by kernel_rfl
section
variable {H : Type} {enc : TypeId × Value → H} {P : Program} {W : World} {base : Nat}
theorem srow_of_trodE{t e:TypeId}(ht:P.underlying t=some (.slice e))(he:P.underlying e=some .string)(hc:P.cellsOf e=1){fuel:Nat}{v:Value}{x:DataW H × List MemPlace}
  (h:DataW.trod enc P W base (fun _=>true) true fuel t [v]=some x):∃ xs:List ByteArray,SRow W v xs:=by
 rcases open_strings ht he hc h with⟨hcs,_⟩|⟨a,len,cap,ss,hcs,_,hl,hm,hz,_,hcell,_⟩
 ·
  simp only [List.cons.injEq,and_true] at hcs
  subst hcs
  exact⟨[],srow_nil W⟩
 ·
  simp only [List.cons.injEq,and_true] at hcs
  subst hcs
  simp only [if_true] at hz
  refine⟨ss.take len,?_⟩
  have hlen:(ss.take len).length=len:=by simp;omega
  unfold SRow
  rw [hlen]
  refine row_of_cellsQ (by simp;omega) hl hm (by omega) fun j u hu => ?_
  have hj:j<len:=by
   have:=(List.getElem?_eq_some_iff.1 hu).1
   simp at this;omega
  rw [hcell j (by omega),← hu,List.getElem?_map,List.getElem?_take,if_pos hj,List.getD_eq_getElem?_getD,List.getElem?_eq_getElem (by omega)]
  rfl
end
section
variable {H : Type} {enc : TypeId × Value → H} {W : World} {base : Nat} {v : Value} {d : DataW H} {ps : List MemPlace}
set_option maxRecDepth 100000 in
theorem strs_arg(hv:Value.okWide Tryz.prog W .any base 23 v)(h:DataW.Trod enc Tryz.prog W 0 (fun _=>true) true 23 v d ps):∃ xs:List ByteArray,SRow W v xs:=by
 obtain⟨a0,len0,cap0,rfl⟩:=okWide_slice Tryz.underlying23 hv
 obtain⟨fuel,hf⟩:=h
 have hf':DataW.trod enc Tryz.prog W 0 (fun _=>true) true fuel 23 [.slice a0 len0 cap0]=some _:=hf
 exact srow_of_trodE Tryz.underlying23 Tryz.underlying9 (by kernel_rfl) hf'
set_option maxRecDepth 100000 in
theorem u8_arg(hv:Value.okWide Tryz.prog W .any base 5 v)(h:DataW.Trod enc Tryz.prog W 0 (fun _=>true) true 5 v d ps):∃ b:UInt8,v=.int .u8 b.toNat:=by
 obtain⟨z,rfl⟩:=okWide_int Tryz.underlying5 hv
 obtain⟨fuel,hf⟩:=h
 have hf':DataW.trod enc Tryz.prog W 0 (fun _=>true) true fuel 5 [.int .u8 z]=some _:=hf
 obtain⟨z',hz,_,hw⟩:=DataW.trod_int Tryz.underlying5 hf'
 simp at hz
 subst hz
 obtain⟨b,rfl⟩:=u8_wf hw
 exact⟨b,rfl⟩
end
set_option maxRecDepth 100000 in
theorem contract_EditGives(H:Type)(enc:TypeId × Value→H)(W:World)(base:Nat)(args:Array Value)(ds gs:List (DataW H))(before:List MemPlace)
  (hval:∀(j:Nat) t v,Tryz.f5.params[j]? = some t→args[j]? = some v→Value.okWide Tryz.prog W .any base t v)
  (hW:DataW.Whole enc Tryz.prog Tryz.f5.params.toList Rows.editGivesSpec.vars false W args.toList ds gs before) :
  Calls Tryz.prog 5 args W fun e W'=>∃ v,e=.returned v∧Rows.editGivesSpec.post enc Tryz.prog Tryz.f5 false true false false W args v W':=by
 have hW':=hW
 obtain⟨p,q,hA0,hV,rfl,hfz,hnd⟩:=hW
 have hA:DataW.TrodAll enc Tryz.prog W 0 (fun _=>true) true Tryz.f5.params.toList args.toList ds p:=hA0
 rw [Tryz.params5] at hA hval
 obtain⟨v0,v1,v2,d0,d1,d2,p0,p1,p2,rfl,rfl,rfl,h0,h1,h2⟩:=trodAll_three hA
 obtain⟨rfl,rfl⟩:=trodVars_none hV
 obtain⟨ps,hp,hz⟩:=pats_arg (hval 0 22 v0 rfl rfl) h0
 obtain⟨want,hs⟩:=strs_arg (hval 1 23 v1 rfl rfl) h1
 obtain⟨k8,rfl⟩:=u8_arg (hval 2 5 v2 rfl rfl) h2
 refine(egz_any v0 v1 ps want k8 W hp hz hs works27_any).mono fun e W' ⟨he,hb⟩=>⟨_,he,?_⟩
 exact law_post (by kernel_rfl) Tryz.underlying4 rfl laidOut (by kernel_rfl) rfl hW' hb

/-- a world for the witness -/
noncomputable def witWorld(os:Os):World:=World.holding Tryz.prog os ⟨#[],#[],[]⟩
namespace fnEditGives
def wit:Array Value:=#[.slice none 0 0,.slice none 0 0,.int .u8 0]
set_option maxRecDepth 100000 in
theorem laid_met(os:Os):laidMet Tryz.prog Rows.editGivesRow.laid ((witWorld os).forCall (fun _ _=>0) ⟨#[],wit,[]⟩).memory:=
 laidMet_of_run' 8 (by kernel_rfl) (by kernel_rfl)
set_option maxRecDepth 100000 in
theorem reads(os:Os){H:Type}(enc:TypeId × Value→H):∃ places,DataW.whole enc Tryz.prog ((witWorld os).forCall (fun _ _=>0) ⟨#[],wit,[]⟩).memory Tryz.f5.params.toList Rows.editGivesSpec.vars false wit.toList 8=some ([.nil,.nil,.lit (.int .u8 0)],[],places):=
 ⟨[],by kernel_rfl⟩
set_option maxRecDepth 100000 in
theorem lifted(os:Os)(started:os.Started)(H:Type)(enc:TypeId × Value→H)(F:Stop.Interp) :
  ReturnsInHanded {} Tryz.checked os 5 .any ((OpenSpec.ofChange Rows.editGivesSpec).preRow enc Tryz.prog Tryz.f5 Rows.editGivesRow.domain false Rows.editGivesRow.laid) (((OpenSpec.ofChange Rows.editGivesSpec).at F).post enc Tryz.prog Tryz.f5 false true false false):=by
 obtain⟨places,hx⟩:=reads os enc
 refine returnsInHanded_of_row (C:=Tryz.checked) (s:=OpenSpec.ofChange Rows.editGivesSpec) own started (by kernel_rfl) Tryz.func5
  (witness_row_at (enc:=enc) (C:=Tryz.checked) false (witWorld os) wit rfl (by kernel_rfl) (by kernel_rfl) (by kernel_rfl)
   (OpenSpec.preRow_of_cond 8 hx (by kernel_rfl) (fun k hk=>by cases hk) (by kernel_rfl) (laid_met os))) ?_
 intro W base args ds gs before hval hW _ _ _ hL _ _
 exact contract_EditGives H enc W base args ds gs before hval hW
theorem said:Rows.EditGivesSaid:=
 OpenClaim.holds_of_cond 5 Tryz.f5 rfl rfl rfl rfl rfl rfl rfl ⟨rfl,rfl,rfl,rfl,rfl⟩ rfl rfl rfl rfl rfl (by kernel_rfl) Tryz.func5 (by kernel_rfl)
  (of_decide_eq_true (by kernel_rfl)) (by unfold Func.isWrapper;first|(rw [if_pos (by decide +kernel)];kernel_rfl)|(rw [if_neg (by decide +kernel)];exact⟨rfl,rfl⟩))
  (fun os started H enc _ F=>by rw [OpenClaim.pre_eq_preRow];exact lifted os started H enc F)
end fnEditGives

end Go.Proofs.YtllcipobiengiaaGreat
